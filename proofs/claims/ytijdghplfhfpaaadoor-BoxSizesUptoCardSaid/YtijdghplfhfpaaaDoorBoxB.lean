/- Entries: the walk of box.Form. -/
import Derived.Test.YtijdghplfhfpaaaDoorBoxA
import Derived.Test.YtijdghplfhfpaaaDoorListD
import Derived.Test.YtijdghplfhfpaaaDoorKinds
import Derived.RegionTactic
namespace Go.Proofs.YtijdghplfhfpaaaDoor.H
open Go.RowKit Go.Proofs.YtijdghplfhfpaaaDoorW.PrintWords Go.Proofs.YtijdghplfhfpaaaDoorW.PrintLast Go.Proofs.YtijdghplfhfpaaaDoorW.PrintMore Go.Proofs.YtijdghplfhfpaaaDoor.U
set_option linter.unusedVariables false
set_option linter.unusedSimpArgs false
attribute [local go_sem high] eqAEntry
def bareE (x : AEntry) : AEntry :=
  if x.kind = 2 then ⟨2, x.box, 0, x.flags, ⟨#[]⟩, x.text⟩
  else if x.kind = 3 then ⟨3, x.box, x.uid, x.flags, ⟨#[]⟩, ⟨#[]⟩⟩
  else if x.kind = 5 then ⟨5, x.box, x.uid, 0, x.to_, ⟨#[]⟩⟩
  else if x.kind = 6 then ⟨6, ⟨#[]⟩, 0, 0, x.to_, x.text⟩
  else ⟨x.kind, x.box, 0, 0, ⟨#[]⟩, ⟨#[]⟩⟩
def spoolFault (s : ByteArray) : Int := if (listV s).1 = 0 ∧ (listV s).2.length = 1 ∧ s.size ≤ 100 then 0 else 3
def nameTail (x : AEntry) : Int := if nameFault x.box = 0 then (if x.kind = 5 then nameFault x.to_ else 0) else nameFault x.box
def entryFault (x : AEntry) : Int :=
  if x.kind < 1 ∨ 6 < x.kind then 2
  else if eqbAEntry x (bareE x) = false then 3
  else if x.flags < 0 ∨ 31 < x.flags ∨ x.uid < 0 ∨ 1048576 < x.uid then 6
  else if 2000 < x.text.size then 1
  else if x.kind = 6 then spoolFault x.to_ else nameTail x
theorem ef_kind {x : AEntry} (h : x.kind < 1 ∨ 6 < x.kind) : entryFault x = 2 := if_pos h
theorem ef_form {x : AEntry} (h : ¬ (x.kind < 1 ∨ 6 < x.kind)) (h2 : eqbAEntry x (bareE x) = false) : entryFault x = 3 := by rw [entryFault, if_neg h, if_pos h2]
theorem ef_range {x : AEntry} (h : ¬ (x.kind < 1 ∨ 6 < x.kind)) (h2 : eqbAEntry x (bareE x) = true) (h3 : x.flags < 0 ∨ 31 < x.flags ∨ x.uid < 0 ∨ 1048576 < x.uid) : entryFault x = 6 := by rw [entryFault, if_neg h, if_neg (by rw [h2]; decide), if_pos h3]
theorem ef_size {x : AEntry} (h : ¬ (x.kind < 1 ∨ 6 < x.kind)) (h2 : eqbAEntry x (bareE x) = true) (h3 : ¬ (x.flags < 0 ∨ 31 < x.flags ∨ x.uid < 0 ∨ 1048576 < x.uid)) (h4 : 2000 < x.text.size) : entryFault x = 1 := by rw [entryFault, if_neg h, if_neg (by rw [h2]; decide), if_neg h3, if_pos h4]
theorem ef_tail {x : AEntry} (h : ¬ (x.kind < 1 ∨ 6 < x.kind)) (h2 : eqbAEntry x (bareE x) = true) (h3 : ¬ (x.flags < 0 ∨ 31 < x.flags ∨ x.uid < 0 ∨ 1048576 < x.uid)) (h4 : ¬ 2000 < x.text.size) : entryFault x = if x.kind = 6 then spoolFault x.to_ else nameTail x := by rw [entryFault, if_neg h, if_neg (by rw [h2]; decide), if_neg h3, if_neg h4]
set_option maxHeartbeats 8000000 in
set_option maxRecDepth 100000 in
theorem form_1 (bx : ByteArray) (u f : Int) (to_ tx : ByteArray) (m : Int) (w : World) (hb : bx.size ≤ 1048576) (ht : to_.size ≤ 1048576) (hx : tx.size ≤ 1048576) (hm : w.cell? ⟨6, 0, none⟩ = some (.int .i64 m)) (hg : 6 < w.heap.size) :
    Calls Tryd.prog 48 #[.agg #[.int .i64 1, .string bx, .int .i64 u, .int .i64 f, .string to_, .string tx]] w fun e w' => e = .returned (.int .i64 (entryFault ⟨1, bx, u, f, to_, tx⟩)) ∧ Below w.heap.size w w' := by
  have hk : ¬ ((⟨1, bx, u, f, to_, tx⟩ : AEntry).kind < 1 ∨ 6 < (⟨1, bx, u, f, to_, tx⟩ : AEntry).kind) := by show ¬ ((1 : Int) < 1 ∨ 6 < (1 : Int)); omega
  have hbare : bareE ⟨1, bx, u, f, to_, tx⟩ = (⟨1, bx, 0, 0, ⟨#[]⟩, ⟨#[]⟩⟩ : AEntry) := rfl
  have h3 := fun h => ef_form (x := ⟨1, bx, u, f, to_, tx⟩) hk h
  have h6 := fun h h2 => ef_range (x := ⟨1, bx, u, f, to_, tx⟩) hk h h2
  have h1 := fun h h2 h3 => ef_size (x := ⟨1, bx, u, f, to_, tx⟩) hk h h2 h3
  have h0 := fun h h2 h3 => ef_tail (x := ⟨1, bx, u, f, to_, tx⟩) hk h h2 h3
  rw [hbare] at h3 h6 h1 h0
  simp only at h6 h1 h0
  generalize entryFault ⟨1, bx, u, f, to_, tx⟩ = r at *
  clear hbare hk
  cases hq : eqbAEntry ⟨1, bx, u, f, to_, tx⟩ (⟨1, bx, 0, 0, ⟨#[]⟩, ⟨#[]⟩⟩ : AEntry) with
  | false =>
    obtain rfl := h3 hq
    clear h3 h6 h1 h0
    go_enter Tryd.func48, Tryd.ntmps48
    go_wp2_with fail
    skip
    all_goals (go_wp2_with fail)
    all_goals (go_ret; exact ⟨(by first | rfl | (simp; done) | (simp [*]; done) | (rw [if_pos (by omega)]; first | rfl | (simp; done)) | (rw [if_neg (by omega)]; first | rfl | (simp; done)) | (simp; omega)), (by repeat (first | exact Below.refl _ _ | apply below_alloc | apply pw_below_drewN | apply below_drew1 | (refine Below.setCell ?_ (by first | (simp; done) | (simp; omega) | omega) _) ))⟩)
  | true =>
    replace h6 := h6 hq
    replace h1 := h1 hq
    replace h0 := h0 hq
    clear h3
    rcases (by omega : f < 0 ∨ (0 ≤ f ∧ 31 < f) ∨ (0 ≤ f ∧ f ≤ 31 ∧ u < 0) ∨ (0 ≤ f ∧ f ≤ 31 ∧ 0 ≤ u ∧ 1048576 < u) ∨ (0 ≤ f ∧ f ≤ 31 ∧ 0 ≤ u ∧ u ≤ 1048576 ∧ 2000 < tx.size) ∨ (0 ≤ f ∧ f ≤ 31 ∧ 0 ≤ u ∧ u ≤ 1048576 ∧ tx.size ≤ 2000)) with g1 | ⟨g1, g2⟩ | ⟨g1, g2, g3⟩ | ⟨g1, g2, g3, g4⟩ | ⟨g1, g2, g3, g4, g5⟩ | ⟨g1, g2, g3, g4, g5⟩
    · obtain rfl := h6 (by omega)
      clear h6 h1 h0
      go_enter Tryd.func48, Tryd.ntmps48
      go_wp2_with fail
      skip
      all_goals (go_wp2_with fail)
      all_goals (go_ret; exact ⟨(by first | rfl | (simp; done) | (simp [*]; done) | (rw [if_pos (by omega)]; first | rfl | (simp; done)) | (rw [if_neg (by omega)]; first | rfl | (simp; done)) | (simp; omega)), (by repeat (first | exact Below.refl _ _ | apply below_alloc | apply pw_below_drewN | apply below_drew1 | (refine Below.setCell ?_ (by first | (simp; done) | (simp; omega) | omega) _) ))⟩)
    · obtain rfl := h6 (by omega)
      clear h6 h1 h0
      go_enter Tryd.func48, Tryd.ntmps48
      go_wp2_with fail
      skip
      all_goals (go_wp2_with fail)
      all_goals (go_ret; exact ⟨(by first | rfl | (simp; done) | (simp [*]; done) | (rw [if_pos (by omega)]; first | rfl | (simp; done)) | (rw [if_neg (by omega)]; first | rfl | (simp; done)) | (simp; omega)), (by repeat (first | exact Below.refl _ _ | apply below_alloc | apply pw_below_drewN | apply below_drew1 | (refine Below.setCell ?_ (by first | (simp; done) | (simp; omega) | omega) _) ))⟩)
    · obtain rfl := h6 (by omega)
      clear h6 h1 h0
      go_enter Tryd.func48, Tryd.ntmps48
      go_wp2_with fail
      skip
      all_goals (go_wp2_with fail)
      all_goals (go_ret; exact ⟨(by first | rfl | (simp; done) | (simp [*]; done) | (rw [if_pos (by omega)]; first | rfl | (simp; done)) | (rw [if_neg (by omega)]; first | rfl | (simp; done)) | (simp; omega)), (by repeat (first | exact Below.refl _ _ | apply below_alloc | apply pw_below_drewN | apply below_drew1 | (refine Below.setCell ?_ (by first | (simp; done) | (simp; omega) | omega) _) ))⟩)
    · obtain rfl := h6 (by omega)
      clear h6 h1 h0
      go_enter Tryd.func48, Tryd.ntmps48
      go_wp2_with fail
      skip
      all_goals (go_wp2_with fail)
      all_goals (go_ret; exact ⟨(by first | rfl | (simp; done) | (simp [*]; done) | (rw [if_pos (by omega)]; first | rfl | (simp; done)) | (rw [if_neg (by omega)]; first | rfl | (simp; done)) | (simp; omega)), (by repeat (first | exact Below.refl _ _ | apply below_alloc | apply pw_below_drewN | apply below_drew1 | (refine Below.setCell ?_ (by first | (simp; done) | (simp; omega) | omega) _) ))⟩)
    · obtain rfl := h1 (by omega) g5
      clear h6 h1 h0
      have g5' : (2000 : Int) < tx.size := by omega
      go_enter Tryd.func48, Tryd.ntmps48
      go_wp2_with fail
      skip
      all_goals (go_wp2_with fail)
      all_goals (go_ret; exact ⟨(by first | rfl | (simp; done) | (simp [*]; done) | (rw [if_pos (by omega)]; first | rfl | (simp; done)) | (rw [if_neg (by omega)]; first | rfl | (simp; done)) | (simp; omega)), (by repeat (first | exact Below.refl _ _ | apply below_alloc | apply pw_below_drewN | apply below_drew1 | (refine Below.setCell ?_ (by first | (simp; done) | (simp; omega) | omega) _) ))⟩)
    · replace h0 := h0 (by omega) (by omega)
      have g5' : ¬ (2000 : Int) < tx.size := by omega
      clear h6 h1
      replace h0 : r = nameFault bx := by rw [h0, if_neg (by omega), nameTail]; simp only; split <;> simp_all
      have HN := fun w => ruleName_calls bx w (by omega)
      generalize nameFault bx = nf at *
      subst h0
      have HN := Lib.hid HN
      by_cases hz : r = 0
      · subst hz
        go_enter Tryd.func48, Tryd.ntmps48
        go_wp2_with fail
        skip
        all_goals (go_wp2_with fail; refine (HN.out _).mono ?_; rintro e w1 ⟨rfl, rfl⟩; go_wp2_with fail)
        all_goals (go_ret; exact ⟨(by first | rfl | (simp; done) | (simp [*]; done) | (rw [if_pos (by omega)]; first | rfl | (simp; done)) | (rw [if_neg (by omega)]; first | rfl | (simp; done)) | (simp; omega)), (by repeat (first | exact Below.refl _ _ | apply below_alloc | apply pw_below_drewN | apply below_drew1 | (refine Below.setCell ?_ (by first | (simp; done) | (simp; omega) | omega) _) ))⟩)
      · have e1 : (r != 0) = true := by rw [bne_iff_ne]; exact hz
        clear hz
        go_enter Tryd.func48, Tryd.ntmps48
        go_wp2_with fail
        skip
        all_goals (go_wp2_with fail; refine (HN.out _).mono ?_; rintro e w1 ⟨rfl, rfl⟩; go_wp2_with fail)
        all_goals (go_ret; exact ⟨(by first | rfl | (simp; done) | (simp [*]; done) | (rw [if_pos (by omega)]; first | rfl | (simp; done)) | (rw [if_neg (by omega)]; first | rfl | (simp; done)) | (simp; omega)), (by repeat (first | exact Below.refl _ _ | apply below_alloc | apply pw_below_drewN | apply below_drew1 | (refine Below.setCell ?_ (by first | (simp; done) | (simp; omega) | omega) _) ))⟩)
set_option maxHeartbeats 8000000 in
set_option maxRecDepth 100000 in
theorem form_2 (bx : ByteArray) (u f : Int) (to_ tx : ByteArray) (m : Int) (w : World) (hb : bx.size ≤ 1048576) (ht : to_.size ≤ 1048576) (hx : tx.size ≤ 1048576) (hm : w.cell? ⟨6, 0, none⟩ = some (.int .i64 m)) (hg : 6 < w.heap.size) :
    Calls Tryd.prog 48 #[.agg #[.int .i64 2, .string bx, .int .i64 u, .int .i64 f, .string to_, .string tx]] w fun e w' => e = .returned (.int .i64 (entryFault ⟨2, bx, u, f, to_, tx⟩)) ∧ Below w.heap.size w w' := by
  have hk : ¬ ((⟨2, bx, u, f, to_, tx⟩ : AEntry).kind < 1 ∨ 6 < (⟨2, bx, u, f, to_, tx⟩ : AEntry).kind) := by show ¬ ((2 : Int) < 1 ∨ 6 < (2 : Int)); omega
  have hbare : bareE ⟨2, bx, u, f, to_, tx⟩ = (⟨2, bx, 0, f, ⟨#[]⟩, tx⟩ : AEntry) := rfl
  have h3 := fun h => ef_form (x := ⟨2, bx, u, f, to_, tx⟩) hk h
  have h6 := fun h h2 => ef_range (x := ⟨2, bx, u, f, to_, tx⟩) hk h h2
  have h1 := fun h h2 h3 => ef_size (x := ⟨2, bx, u, f, to_, tx⟩) hk h h2 h3
  have h0 := fun h h2 h3 => ef_tail (x := ⟨2, bx, u, f, to_, tx⟩) hk h h2 h3
  rw [hbare] at h3 h6 h1 h0
  simp only at h6 h1 h0
  generalize entryFault ⟨2, bx, u, f, to_, tx⟩ = r at *
  clear hbare hk
  cases hq : eqbAEntry ⟨2, bx, u, f, to_, tx⟩ (⟨2, bx, 0, f, ⟨#[]⟩, tx⟩ : AEntry) with
  | false =>
    obtain rfl := h3 hq
    clear h3 h6 h1 h0
    go_enter Tryd.func48, Tryd.ntmps48
    go_wp2_with fail
    go_region
    all_goals (go_wp2_with fail)
    all_goals (go_ret; exact ⟨(by first | rfl | (simp; done) | (simp [*]; done) | (rw [if_pos (by omega)]; first | rfl | (simp; done)) | (rw [if_neg (by omega)]; first | rfl | (simp; done)) | (simp; omega)), (by repeat (first | exact Below.refl _ _ | apply below_alloc | apply pw_below_drewN | apply below_drew1 | (refine Below.setCell ?_ (by first | (simp; done) | (simp; omega) | omega) _) ))⟩)
  | true =>
    replace h6 := h6 hq
    replace h1 := h1 hq
    replace h0 := h0 hq
    clear h3
    rcases (by omega : f < 0 ∨ (0 ≤ f ∧ 31 < f) ∨ (0 ≤ f ∧ f ≤ 31 ∧ u < 0) ∨ (0 ≤ f ∧ f ≤ 31 ∧ 0 ≤ u ∧ 1048576 < u) ∨ (0 ≤ f ∧ f ≤ 31 ∧ 0 ≤ u ∧ u ≤ 1048576 ∧ 2000 < tx.size) ∨ (0 ≤ f ∧ f ≤ 31 ∧ 0 ≤ u ∧ u ≤ 1048576 ∧ tx.size ≤ 2000)) with g1 | ⟨g1, g2⟩ | ⟨g1, g2, g3⟩ | ⟨g1, g2, g3, g4⟩ | ⟨g1, g2, g3, g4, g5⟩ | ⟨g1, g2, g3, g4, g5⟩
    · obtain rfl := h6 (by omega)
      clear h6 h1 h0
      go_enter Tryd.func48, Tryd.ntmps48
      go_wp2_with fail
      go_region
      all_goals (go_wp2_with fail)
      all_goals (go_ret; exact ⟨(by first | rfl | (simp; done) | (simp [*]; done) | (rw [if_pos (by omega)]; first | rfl | (simp; done)) | (rw [if_neg (by omega)]; first | rfl | (simp; done)) | (simp; omega)), (by repeat (first | exact Below.refl _ _ | apply below_alloc | apply pw_below_drewN | apply below_drew1 | (refine Below.setCell ?_ (by first | (simp; done) | (simp; omega) | omega) _) ))⟩)
    · obtain rfl := h6 (by omega)
      clear h6 h1 h0
      go_enter Tryd.func48, Tryd.ntmps48
      go_wp2_with fail
      go_region
      all_goals (go_wp2_with fail)
      all_goals (go_ret; exact ⟨(by first | rfl | (simp; done) | (simp [*]; done) | (rw [if_pos (by omega)]; first | rfl | (simp; done)) | (rw [if_neg (by omega)]; first | rfl | (simp; done)) | (simp; omega)), (by repeat (first | exact Below.refl _ _ | apply below_alloc | apply pw_below_drewN | apply below_drew1 | (refine Below.setCell ?_ (by first | (simp; done) | (simp; omega) | omega) _) ))⟩)
    · obtain rfl := h6 (by omega)
      clear h6 h1 h0
      go_enter Tryd.func48, Tryd.ntmps48
      go_wp2_with fail
      go_region
      all_goals (go_wp2_with fail)
      all_goals (go_ret; exact ⟨(by first | rfl | (simp; done) | (simp [*]; done) | (rw [if_pos (by omega)]; first | rfl | (simp; done)) | (rw [if_neg (by omega)]; first | rfl | (simp; done)) | (simp; omega)), (by repeat (first | exact Below.refl _ _ | apply below_alloc | apply pw_below_drewN | apply below_drew1 | (refine Below.setCell ?_ (by first | (simp; done) | (simp; omega) | omega) _) ))⟩)
    · obtain rfl := h6 (by omega)
      clear h6 h1 h0
      go_enter Tryd.func48, Tryd.ntmps48
      go_wp2_with fail
      go_region
      all_goals (go_wp2_with fail)
      all_goals (go_ret; exact ⟨(by first | rfl | (simp; done) | (simp [*]; done) | (rw [if_pos (by omega)]; first | rfl | (simp; done)) | (rw [if_neg (by omega)]; first | rfl | (simp; done)) | (simp; omega)), (by repeat (first | exact Below.refl _ _ | apply below_alloc | apply pw_below_drewN | apply below_drew1 | (refine Below.setCell ?_ (by first | (simp; done) | (simp; omega) | omega) _) ))⟩)
    · obtain rfl := h1 (by omega) g5
      clear h6 h1 h0
      have g5' : (2000 : Int) < tx.size := by omega
      go_enter Tryd.func48, Tryd.ntmps48
      go_wp2_with fail
      go_region
      all_goals (go_wp2_with fail)
      all_goals (go_ret; exact ⟨(by first | rfl | (simp; done) | (simp [*]; done) | (rw [if_pos (by omega)]; first | rfl | (simp; done)) | (rw [if_neg (by omega)]; first | rfl | (simp; done)) | (simp; omega)), (by repeat (first | exact Below.refl _ _ | apply below_alloc | apply pw_below_drewN | apply below_drew1 | (refine Below.setCell ?_ (by first | (simp; done) | (simp; omega) | omega) _) ))⟩)
    · replace h0 := h0 (by omega) (by omega)
      have g5' : ¬ (2000 : Int) < tx.size := by omega
      clear h6 h1
      replace h0 : r = nameFault bx := by rw [h0, if_neg (by omega), nameTail]; simp only; split <;> simp_all
      have HN := fun w => ruleName_calls bx w (by omega)
      generalize nameFault bx = nf at *
      subst h0
      have HN := Lib.hid HN
      by_cases hz : r = 0
      · subst hz
        go_enter Tryd.func48, Tryd.ntmps48
        go_wp2_with fail
        go_region
        all_goals (go_wp2_with fail; refine (HN.out _).mono ?_; rintro e w1 ⟨rfl, rfl⟩; go_wp2_with fail)
        all_goals (go_ret; exact ⟨(by first | rfl | (simp; done) | (simp [*]; done) | (rw [if_pos (by omega)]; first | rfl | (simp; done)) | (rw [if_neg (by omega)]; first | rfl | (simp; done)) | (simp; omega)), (by repeat (first | exact Below.refl _ _ | apply below_alloc | apply pw_below_drewN | apply below_drew1 | (refine Below.setCell ?_ (by first | (simp; done) | (simp; omega) | omega) _) ))⟩)
      · have e1 : (r != 0) = true := by rw [bne_iff_ne]; exact hz
        clear hz
        go_enter Tryd.func48, Tryd.ntmps48
        go_wp2_with fail
        go_region
        all_goals (go_wp2_with fail; refine (HN.out _).mono ?_; rintro e w1 ⟨rfl, rfl⟩; go_wp2_with fail)
        all_goals (go_ret; exact ⟨(by first | rfl | (simp; done) | (simp [*]; done) | (rw [if_pos (by omega)]; first | rfl | (simp; done)) | (rw [if_neg (by omega)]; first | rfl | (simp; done)) | (simp; omega)), (by repeat (first | exact Below.refl _ _ | apply below_alloc | apply pw_below_drewN | apply below_drew1 | (refine Below.setCell ?_ (by first | (simp; done) | (simp; omega) | omega) _) ))⟩)
set_option maxHeartbeats 8000000 in
set_option maxRecDepth 100000 in
theorem form_3 (bx : ByteArray) (u f : Int) (to_ tx : ByteArray) (m : Int) (w : World) (hb : bx.size ≤ 1048576) (ht : to_.size ≤ 1048576) (hx : tx.size ≤ 1048576) (hm : w.cell? ⟨6, 0, none⟩ = some (.int .i64 m)) (hg : 6 < w.heap.size) :
    Calls Tryd.prog 48 #[.agg #[.int .i64 3, .string bx, .int .i64 u, .int .i64 f, .string to_, .string tx]] w fun e w' => e = .returned (.int .i64 (entryFault ⟨3, bx, u, f, to_, tx⟩)) ∧ Below w.heap.size w w' := by
  have hk : ¬ ((⟨3, bx, u, f, to_, tx⟩ : AEntry).kind < 1 ∨ 6 < (⟨3, bx, u, f, to_, tx⟩ : AEntry).kind) := by show ¬ ((3 : Int) < 1 ∨ 6 < (3 : Int)); omega
  have hbare : bareE ⟨3, bx, u, f, to_, tx⟩ = (⟨3, bx, u, f, ⟨#[]⟩, ⟨#[]⟩⟩ : AEntry) := rfl
  have h3 := fun h => ef_form (x := ⟨3, bx, u, f, to_, tx⟩) hk h
  have h6 := fun h h2 => ef_range (x := ⟨3, bx, u, f, to_, tx⟩) hk h h2
  have h1 := fun h h2 h3 => ef_size (x := ⟨3, bx, u, f, to_, tx⟩) hk h h2 h3
  have h0 := fun h h2 h3 => ef_tail (x := ⟨3, bx, u, f, to_, tx⟩) hk h h2 h3
  rw [hbare] at h3 h6 h1 h0
  simp only at h6 h1 h0
  generalize entryFault ⟨3, bx, u, f, to_, tx⟩ = r at *
  clear hbare hk
  cases hq : eqbAEntry ⟨3, bx, u, f, to_, tx⟩ (⟨3, bx, u, f, ⟨#[]⟩, ⟨#[]⟩⟩ : AEntry) with
  | false =>
    obtain rfl := h3 hq
    clear h3 h6 h1 h0
    go_enter Tryd.func48, Tryd.ntmps48
    go_wp2_with fail
    go_region
    all_goals (go_wp2_with fail)
    all_goals (go_ret; exact ⟨(by first | rfl | (simp; done) | (simp [*]; done) | (rw [if_pos (by omega)]; first | rfl | (simp; done)) | (rw [if_neg (by omega)]; first | rfl | (simp; done)) | (simp; omega)), (by repeat (first | exact Below.refl _ _ | apply below_alloc | apply pw_below_drewN | apply below_drew1 | (refine Below.setCell ?_ (by first | (simp; done) | (simp; omega) | omega) _) ))⟩)
  | true =>
    replace h6 := h6 hq
    replace h1 := h1 hq
    replace h0 := h0 hq
    clear h3
    rcases (by omega : f < 0 ∨ (0 ≤ f ∧ 31 < f) ∨ (0 ≤ f ∧ f ≤ 31 ∧ u < 0) ∨ (0 ≤ f ∧ f ≤ 31 ∧ 0 ≤ u ∧ 1048576 < u) ∨ (0 ≤ f ∧ f ≤ 31 ∧ 0 ≤ u ∧ u ≤ 1048576 ∧ 2000 < tx.size) ∨ (0 ≤ f ∧ f ≤ 31 ∧ 0 ≤ u ∧ u ≤ 1048576 ∧ tx.size ≤ 2000)) with g1 | ⟨g1, g2⟩ | ⟨g1, g2, g3⟩ | ⟨g1, g2, g3, g4⟩ | ⟨g1, g2, g3, g4, g5⟩ | ⟨g1, g2, g3, g4, g5⟩
    · obtain rfl := h6 (by omega)
      clear h6 h1 h0
      go_enter Tryd.func48, Tryd.ntmps48
      go_wp2_with fail
      go_region
      all_goals (go_wp2_with fail)
      all_goals (go_ret; exact ⟨(by first | rfl | (simp; done) | (simp [*]; done) | (rw [if_pos (by omega)]; first | rfl | (simp; done)) | (rw [if_neg (by omega)]; first | rfl | (simp; done)) | (simp; omega)), (by repeat (first | exact Below.refl _ _ | apply below_alloc | apply pw_below_drewN | apply below_drew1 | (refine Below.setCell ?_ (by first | (simp; done) | (simp; omega) | omega) _) ))⟩)
    · obtain rfl := h6 (by omega)
      clear h6 h1 h0
      go_enter Tryd.func48, Tryd.ntmps48
      go_wp2_with fail
      go_region
      all_goals (go_wp2_with fail)
      all_goals (go_ret; exact ⟨(by first | rfl | (simp; done) | (simp [*]; done) | (rw [if_pos (by omega)]; first | rfl | (simp; done)) | (rw [if_neg (by omega)]; first | rfl | (simp; done)) | (simp; omega)), (by repeat (first | exact Below.refl _ _ | apply below_alloc | apply pw_below_drewN | apply below_drew1 | (refine Below.setCell ?_ (by first | (simp; done) | (simp; omega) | omega) _) ))⟩)
    · obtain rfl := h6 (by omega)
      clear h6 h1 h0
      go_enter Tryd.func48, Tryd.ntmps48
      go_wp2_with fail
      go_region
      all_goals (go_wp2_with fail)
      all_goals (go_ret; exact ⟨(by first | rfl | (simp; done) | (simp [*]; done) | (rw [if_pos (by omega)]; first | rfl | (simp; done)) | (rw [if_neg (by omega)]; first | rfl | (simp; done)) | (simp; omega)), (by repeat (first | exact Below.refl _ _ | apply below_alloc | apply pw_below_drewN | apply below_drew1 | (refine Below.setCell ?_ (by first | (simp; done) | (simp; omega) | omega) _) ))⟩)
    · obtain rfl := h6 (by omega)
      clear h6 h1 h0
      go_enter Tryd.func48, Tryd.ntmps48
      go_wp2_with fail
      go_region
      all_goals (go_wp2_with fail)
      all_goals (go_ret; exact ⟨(by first | rfl | (simp; done) | (simp [*]; done) | (rw [if_pos (by omega)]; first | rfl | (simp; done)) | (rw [if_neg (by omega)]; first | rfl | (simp; done)) | (simp; omega)), (by repeat (first | exact Below.refl _ _ | apply below_alloc | apply pw_below_drewN | apply below_drew1 | (refine Below.setCell ?_ (by first | (simp; done) | (simp; omega) | omega) _) ))⟩)
    · obtain rfl := h1 (by omega) g5
      clear h6 h1 h0
      have g5' : (2000 : Int) < tx.size := by omega
      go_enter Tryd.func48, Tryd.ntmps48
      go_wp2_with fail
      go_region
      all_goals (go_wp2_with fail)
      all_goals (go_ret; exact ⟨(by first | rfl | (simp; done) | (simp [*]; done) | (rw [if_pos (by omega)]; first | rfl | (simp; done)) | (rw [if_neg (by omega)]; first | rfl | (simp; done)) | (simp; omega)), (by repeat (first | exact Below.refl _ _ | apply below_alloc | apply pw_below_drewN | apply below_drew1 | (refine Below.setCell ?_ (by first | (simp; done) | (simp; omega) | omega) _) ))⟩)
    · replace h0 := h0 (by omega) (by omega)
      have g5' : ¬ (2000 : Int) < tx.size := by omega
      clear h6 h1
      replace h0 : r = nameFault bx := by rw [h0, if_neg (by omega), nameTail]; simp only; split <;> simp_all
      have HN := fun w => ruleName_calls bx w (by omega)
      generalize nameFault bx = nf at *
      subst h0
      have HN := Lib.hid HN
      by_cases hz : r = 0
      · subst hz
        go_enter Tryd.func48, Tryd.ntmps48
        go_wp2_with fail
        go_region
        all_goals (go_wp2_with fail; refine (HN.out _).mono ?_; rintro e w1 ⟨rfl, rfl⟩; go_wp2_with fail)
        all_goals (go_ret; exact ⟨(by first | rfl | (simp; done) | (simp [*]; done) | (rw [if_pos (by omega)]; first | rfl | (simp; done)) | (rw [if_neg (by omega)]; first | rfl | (simp; done)) | (simp; omega)), (by repeat (first | exact Below.refl _ _ | apply below_alloc | apply pw_below_drewN | apply below_drew1 | (refine Below.setCell ?_ (by first | (simp; done) | (simp; omega) | omega) _) ))⟩)
      · have e1 : (r != 0) = true := by rw [bne_iff_ne]; exact hz
        clear hz
        go_enter Tryd.func48, Tryd.ntmps48
        go_wp2_with fail
        go_region
        all_goals (go_wp2_with fail; refine (HN.out _).mono ?_; rintro e w1 ⟨rfl, rfl⟩; go_wp2_with fail)
        all_goals (go_ret; exact ⟨(by first | rfl | (simp; done) | (simp [*]; done) | (rw [if_pos (by omega)]; first | rfl | (simp; done)) | (rw [if_neg (by omega)]; first | rfl | (simp; done)) | (simp; omega)), (by repeat (first | exact Below.refl _ _ | apply below_alloc | apply pw_below_drewN | apply below_drew1 | (refine Below.setCell ?_ (by first | (simp; done) | (simp; omega) | omega) _) ))⟩)
set_option maxHeartbeats 8000000 in
set_option maxRecDepth 100000 in
theorem form_4 (bx : ByteArray) (u f : Int) (to_ tx : ByteArray) (m : Int) (w : World) (hb : bx.size ≤ 1048576) (ht : to_.size ≤ 1048576) (hx : tx.size ≤ 1048576) (hm : w.cell? ⟨6, 0, none⟩ = some (.int .i64 m)) (hg : 6 < w.heap.size) :
    Calls Tryd.prog 48 #[.agg #[.int .i64 4, .string bx, .int .i64 u, .int .i64 f, .string to_, .string tx]] w fun e w' => e = .returned (.int .i64 (entryFault ⟨4, bx, u, f, to_, tx⟩)) ∧ Below w.heap.size w w' := by
  have hk : ¬ ((⟨4, bx, u, f, to_, tx⟩ : AEntry).kind < 1 ∨ 6 < (⟨4, bx, u, f, to_, tx⟩ : AEntry).kind) := by show ¬ ((4 : Int) < 1 ∨ 6 < (4 : Int)); omega
  have hbare : bareE ⟨4, bx, u, f, to_, tx⟩ = (⟨4, bx, 0, 0, ⟨#[]⟩, ⟨#[]⟩⟩ : AEntry) := rfl
  have h3 := fun h => ef_form (x := ⟨4, bx, u, f, to_, tx⟩) hk h
  have h6 := fun h h2 => ef_range (x := ⟨4, bx, u, f, to_, tx⟩) hk h h2
  have h1 := fun h h2 h3 => ef_size (x := ⟨4, bx, u, f, to_, tx⟩) hk h h2 h3
  have h0 := fun h h2 h3 => ef_tail (x := ⟨4, bx, u, f, to_, tx⟩) hk h h2 h3
  rw [hbare] at h3 h6 h1 h0
  simp only at h6 h1 h0
  generalize entryFault ⟨4, bx, u, f, to_, tx⟩ = r at *
  clear hbare hk
  cases hq : eqbAEntry ⟨4, bx, u, f, to_, tx⟩ (⟨4, bx, 0, 0, ⟨#[]⟩, ⟨#[]⟩⟩ : AEntry) with
  | false =>
    obtain rfl := h3 hq
    clear h3 h6 h1 h0
    go_enter Tryd.func48, Tryd.ntmps48
    go_wp2_with fail
    skip
    all_goals (go_wp2_with fail)
    all_goals (go_ret; exact ⟨(by first | rfl | (simp; done) | (simp [*]; done) | (rw [if_pos (by omega)]; first | rfl | (simp; done)) | (rw [if_neg (by omega)]; first | rfl | (simp; done)) | (simp; omega)), (by repeat (first | exact Below.refl _ _ | apply below_alloc | apply pw_below_drewN | apply below_drew1 | (refine Below.setCell ?_ (by first | (simp; done) | (simp; omega) | omega) _) ))⟩)
  | true =>
    replace h6 := h6 hq
    replace h1 := h1 hq
    replace h0 := h0 hq
    clear h3
    rcases (by omega : f < 0 ∨ (0 ≤ f ∧ 31 < f) ∨ (0 ≤ f ∧ f ≤ 31 ∧ u < 0) ∨ (0 ≤ f ∧ f ≤ 31 ∧ 0 ≤ u ∧ 1048576 < u) ∨ (0 ≤ f ∧ f ≤ 31 ∧ 0 ≤ u ∧ u ≤ 1048576 ∧ 2000 < tx.size) ∨ (0 ≤ f ∧ f ≤ 31 ∧ 0 ≤ u ∧ u ≤ 1048576 ∧ tx.size ≤ 2000)) with g1 | ⟨g1, g2⟩ | ⟨g1, g2, g3⟩ | ⟨g1, g2, g3, g4⟩ | ⟨g1, g2, g3, g4, g5⟩ | ⟨g1, g2, g3, g4, g5⟩
    · obtain rfl := h6 (by omega)
      clear h6 h1 h0
      go_enter Tryd.func48, Tryd.ntmps48
      go_wp2_with fail
      skip
      all_goals (go_wp2_with fail)
      all_goals (go_ret; exact ⟨(by first | rfl | (simp; done) | (simp [*]; done) | (rw [if_pos (by omega)]; first | rfl | (simp; done)) | (rw [if_neg (by omega)]; first | rfl | (simp; done)) | (simp; omega)), (by repeat (first | exact Below.refl _ _ | apply below_alloc | apply pw_below_drewN | apply below_drew1 | (refine Below.setCell ?_ (by first | (simp; done) | (simp; omega) | omega) _) ))⟩)
    · obtain rfl := h6 (by omega)
      clear h6 h1 h0
      go_enter Tryd.func48, Tryd.ntmps48
      go_wp2_with fail
      skip
      all_goals (go_wp2_with fail)
      all_goals (go_ret; exact ⟨(by first | rfl | (simp; done) | (simp [*]; done) | (rw [if_pos (by omega)]; first | rfl | (simp; done)) | (rw [if_neg (by omega)]; first | rfl | (simp; done)) | (simp; omega)), (by repeat (first | exact Below.refl _ _ | apply below_alloc | apply pw_below_drewN | apply below_drew1 | (refine Below.setCell ?_ (by first | (simp; done) | (simp; omega) | omega) _) ))⟩)
    · obtain rfl := h6 (by omega)
      clear h6 h1 h0
      go_enter Tryd.func48, Tryd.ntmps48
      go_wp2_with fail
      skip
      all_goals (go_wp2_with fail)
      all_goals (go_ret; exact ⟨(by first | rfl | (simp; done) | (simp [*]; done) | (rw [if_pos (by omega)]; first | rfl | (simp; done)) | (rw [if_neg (by omega)]; first | rfl | (simp; done)) | (simp; omega)), (by repeat (first | exact Below.refl _ _ | apply below_alloc | apply pw_below_drewN | apply below_drew1 | (refine Below.setCell ?_ (by first | (simp; done) | (simp; omega) | omega) _) ))⟩)
    · obtain rfl := h6 (by omega)
      clear h6 h1 h0
      go_enter Tryd.func48, Tryd.ntmps48
      go_wp2_with fail
      skip
      all_goals (go_wp2_with fail)
      all_goals (go_ret; exact ⟨(by first | rfl | (simp; done) | (simp [*]; done) | (rw [if_pos (by omega)]; first | rfl | (simp; done)) | (rw [if_neg (by omega)]; first | rfl | (simp; done)) | (simp; omega)), (by repeat (first | exact Below.refl _ _ | apply below_alloc | apply pw_below_drewN | apply below_drew1 | (refine Below.setCell ?_ (by first | (simp; done) | (simp; omega) | omega) _) ))⟩)
    · obtain rfl := h1 (by omega) g5
      clear h6 h1 h0
      have g5' : (2000 : Int) < tx.size := by omega
      go_enter Tryd.func48, Tryd.ntmps48
      go_wp2_with fail
      skip
      all_goals (go_wp2_with fail)
      all_goals (go_ret; exact ⟨(by first | rfl | (simp; done) | (simp [*]; done) | (rw [if_pos (by omega)]; first | rfl | (simp; done)) | (rw [if_neg (by omega)]; first | rfl | (simp; done)) | (simp; omega)), (by repeat (first | exact Below.refl _ _ | apply below_alloc | apply pw_below_drewN | apply below_drew1 | (refine Below.setCell ?_ (by first | (simp; done) | (simp; omega) | omega) _) ))⟩)
    · replace h0 := h0 (by omega) (by omega)
      have g5' : ¬ (2000 : Int) < tx.size := by omega
      clear h6 h1
      replace h0 : r = nameFault bx := by rw [h0, if_neg (by omega), nameTail]; simp only; split <;> simp_all
      have HN := fun w => ruleName_calls bx w (by omega)
      generalize nameFault bx = nf at *
      subst h0
      have HN := Lib.hid HN
      by_cases hz : r = 0
      · subst hz
        go_enter Tryd.func48, Tryd.ntmps48
        go_wp2_with fail
        skip
        all_goals (go_wp2_with fail; refine (HN.out _).mono ?_; rintro e w1 ⟨rfl, rfl⟩; go_wp2_with fail)
        all_goals (go_ret; exact ⟨(by first | rfl | (simp; done) | (simp [*]; done) | (rw [if_pos (by omega)]; first | rfl | (simp; done)) | (rw [if_neg (by omega)]; first | rfl | (simp; done)) | (simp; omega)), (by repeat (first | exact Below.refl _ _ | apply below_alloc | apply pw_below_drewN | apply below_drew1 | (refine Below.setCell ?_ (by first | (simp; done) | (simp; omega) | omega) _) ))⟩)
      · have e1 : (r != 0) = true := by rw [bne_iff_ne]; exact hz
        clear hz
        go_enter Tryd.func48, Tryd.ntmps48
        go_wp2_with fail
        skip
        all_goals (go_wp2_with fail; refine (HN.out _).mono ?_; rintro e w1 ⟨rfl, rfl⟩; go_wp2_with fail)
        all_goals (go_ret; exact ⟨(by first | rfl | (simp; done) | (simp [*]; done) | (rw [if_pos (by omega)]; first | rfl | (simp; done)) | (rw [if_neg (by omega)]; first | rfl | (simp; done)) | (simp; omega)), (by repeat (first | exact Below.refl _ _ | apply below_alloc | apply pw_below_drewN | apply below_drew1 | (refine Below.setCell ?_ (by first | (simp; done) | (simp; omega) | omega) _) ))⟩)
set_option maxHeartbeats 8000000 in
set_option maxRecDepth 100000 in
theorem form_5 (bx : ByteArray) (u f : Int) (to_ tx : ByteArray) (m : Int) (w : World) (hb : bx.size ≤ 1048576) (ht : to_.size ≤ 1048576) (hx : tx.size ≤ 1048576) (hm : w.cell? ⟨6, 0, none⟩ = some (.int .i64 m)) (hg : 6 < w.heap.size) :
    Calls Tryd.prog 48 #[.agg #[.int .i64 5, .string bx, .int .i64 u, .int .i64 f, .string to_, .string tx]] w fun e w' => e = .returned (.int .i64 (entryFault ⟨5, bx, u, f, to_, tx⟩)) ∧ Below w.heap.size w w' := by
  have hk : ¬ ((⟨5, bx, u, f, to_, tx⟩ : AEntry).kind < 1 ∨ 6 < (⟨5, bx, u, f, to_, tx⟩ : AEntry).kind) := by show ¬ ((5 : Int) < 1 ∨ 6 < (5 : Int)); omega
  have hbare : bareE ⟨5, bx, u, f, to_, tx⟩ = (⟨5, bx, u, 0, to_, ⟨#[]⟩⟩ : AEntry) := rfl
  have h3 := fun h => ef_form (x := ⟨5, bx, u, f, to_, tx⟩) hk h
  have h6 := fun h h2 => ef_range (x := ⟨5, bx, u, f, to_, tx⟩) hk h h2
  have h1 := fun h h2 h3 => ef_size (x := ⟨5, bx, u, f, to_, tx⟩) hk h h2 h3
  have h0 := fun h h2 h3 => ef_tail (x := ⟨5, bx, u, f, to_, tx⟩) hk h h2 h3
  rw [hbare] at h3 h6 h1 h0
  simp only at h6 h1 h0
  generalize entryFault ⟨5, bx, u, f, to_, tx⟩ = r at *
  clear hbare hk
  cases hq : eqbAEntry ⟨5, bx, u, f, to_, tx⟩ (⟨5, bx, u, 0, to_, ⟨#[]⟩⟩ : AEntry) with
  | false =>
    obtain rfl := h3 hq
    clear h3 h6 h1 h0
    go_enter Tryd.func48, Tryd.ntmps48
    go_wp2_with fail
    go_region
    all_goals (go_wp2_with fail)
    all_goals (go_ret; exact ⟨(by first | rfl | (simp; done) | (simp [*]; done) | (rw [if_pos (by omega)]; first | rfl | (simp; done)) | (rw [if_neg (by omega)]; first | rfl | (simp; done)) | (simp; omega)), (by repeat (first | exact Below.refl _ _ | apply below_alloc | apply pw_below_drewN | apply below_drew1 | (refine Below.setCell ?_ (by first | (simp; done) | (simp; omega) | omega) _) ))⟩)
  | true =>
    replace h6 := h6 hq
    replace h1 := h1 hq
    replace h0 := h0 hq
    clear h3
    rcases (by omega : f < 0 ∨ (0 ≤ f ∧ 31 < f) ∨ (0 ≤ f ∧ f ≤ 31 ∧ u < 0) ∨ (0 ≤ f ∧ f ≤ 31 ∧ 0 ≤ u ∧ 1048576 < u) ∨ (0 ≤ f ∧ f ≤ 31 ∧ 0 ≤ u ∧ u ≤ 1048576 ∧ 2000 < tx.size) ∨ (0 ≤ f ∧ f ≤ 31 ∧ 0 ≤ u ∧ u ≤ 1048576 ∧ tx.size ≤ 2000)) with g1 | ⟨g1, g2⟩ | ⟨g1, g2, g3⟩ | ⟨g1, g2, g3, g4⟩ | ⟨g1, g2, g3, g4, g5⟩ | ⟨g1, g2, g3, g4, g5⟩
    · obtain rfl := h6 (by omega)
      clear h6 h1 h0
      go_enter Tryd.func48, Tryd.ntmps48
      go_wp2_with fail
      go_region
      all_goals (go_wp2_with fail)
      all_goals (go_ret; exact ⟨(by first | rfl | (simp; done) | (simp [*]; done) | (rw [if_pos (by omega)]; first | rfl | (simp; done)) | (rw [if_neg (by omega)]; first | rfl | (simp; done)) | (simp; omega)), (by repeat (first | exact Below.refl _ _ | apply below_alloc | apply pw_below_drewN | apply below_drew1 | (refine Below.setCell ?_ (by first | (simp; done) | (simp; omega) | omega) _) ))⟩)
    · obtain rfl := h6 (by omega)
      clear h6 h1 h0
      go_enter Tryd.func48, Tryd.ntmps48
      go_wp2_with fail
      go_region
      all_goals (go_wp2_with fail)
      all_goals (go_ret; exact ⟨(by first | rfl | (simp; done) | (simp [*]; done) | (rw [if_pos (by omega)]; first | rfl | (simp; done)) | (rw [if_neg (by omega)]; first | rfl | (simp; done)) | (simp; omega)), (by repeat (first | exact Below.refl _ _ | apply below_alloc | apply pw_below_drewN | apply below_drew1 | (refine Below.setCell ?_ (by first | (simp; done) | (simp; omega) | omega) _) ))⟩)
    · obtain rfl := h6 (by omega)
      clear h6 h1 h0
      go_enter Tryd.func48, Tryd.ntmps48
      go_wp2_with fail
      go_region
      all_goals (go_wp2_with fail)
      all_goals (go_ret; exact ⟨(by first | rfl | (simp; done) | (simp [*]; done) | (rw [if_pos (by omega)]; first | rfl | (simp; done)) | (rw [if_neg (by omega)]; first | rfl | (simp; done)) | (simp; omega)), (by repeat (first | exact Below.refl _ _ | apply below_alloc | apply pw_below_drewN | apply below_drew1 | (refine Below.setCell ?_ (by first | (simp; done) | (simp; omega) | omega) _) ))⟩)
    · obtain rfl := h6 (by omega)
      clear h6 h1 h0
      go_enter Tryd.func48, Tryd.ntmps48
      go_wp2_with fail
      go_region
      all_goals (go_wp2_with fail)
      all_goals (go_ret; exact ⟨(by first | rfl | (simp; done) | (simp [*]; done) | (rw [if_pos (by omega)]; first | rfl | (simp; done)) | (rw [if_neg (by omega)]; first | rfl | (simp; done)) | (simp; omega)), (by repeat (first | exact Below.refl _ _ | apply below_alloc | apply pw_below_drewN | apply below_drew1 | (refine Below.setCell ?_ (by first | (simp; done) | (simp; omega) | omega) _) ))⟩)
    · obtain rfl := h1 (by omega) g5
      clear h6 h1 h0
      have g5' : (2000 : Int) < tx.size := by omega
      go_enter Tryd.func48, Tryd.ntmps48
      go_wp2_with fail
      go_region
      all_goals (go_wp2_with fail)
      all_goals (go_ret; exact ⟨(by first | rfl | (simp; done) | (simp [*]; done) | (rw [if_pos (by omega)]; first | rfl | (simp; done)) | (rw [if_neg (by omega)]; first | rfl | (simp; done)) | (simp; omega)), (by repeat (first | exact Below.refl _ _ | apply below_alloc | apply pw_below_drewN | apply below_drew1 | (refine Below.setCell ?_ (by first | (simp; done) | (simp; omega) | omega) _) ))⟩)
    · replace h0 := h0 (by omega) (by omega)
      have g5' : ¬ (2000 : Int) < tx.size := by omega
      clear h6 h1
      replace h0 : r = if nameFault bx = 0 then nameFault to_ else nameFault bx := by rw [h0, if_neg (by omega), nameTail]; simp
      have HN := fun w => ruleName_calls bx w (by omega)
      have HM := fun w => ruleName_calls to_ w (by omega)
      generalize nameFault bx = nf at *
      generalize nameFault to_ = nt at *
      have HN := Lib.hid HN
      have HM := Lib.hid HM
      by_cases hz : nf = 0
      · subst hz
        rw [if_pos rfl] at h0
        subst h0
        go_enter Tryd.func48, Tryd.ntmps48
        go_wp2_with fail
        go_region
        all_goals (go_wp2_with fail; refine (HN.out _).mono ?_; rintro e w1 ⟨rfl, rfl⟩; go_wp2_with fail; refine (HM.out _).mono ?_; rintro e w2 ⟨rfl, rfl⟩; go_wp2_with fail)
        all_goals (go_ret; exact ⟨(by first | rfl | (simp; done) | (simp [*]; done) | (rw [if_pos (by omega)]; first | rfl | (simp; done)) | (rw [if_neg (by omega)]; first | rfl | (simp; done)) | (simp; omega)), (by repeat (first | exact Below.refl _ _ | apply below_alloc | apply pw_below_drewN | apply below_drew1 | (refine Below.setCell ?_ (by first | (simp; done) | (simp; omega) | omega) _) ))⟩)
      · rw [if_neg hz] at h0
        subst h0
        have e1 : (r != 0) = true := by rw [bne_iff_ne]; exact hz
        clear hz
        go_enter Tryd.func48, Tryd.ntmps48
        go_wp2_with fail
        go_region
        all_goals (go_wp2_with fail; refine (HN.out _).mono ?_; rintro e w1 ⟨rfl, rfl⟩; go_wp2_with fail)
        all_goals (go_ret; exact ⟨(by first | rfl | (simp; done) | (simp [*]; done) | (rw [if_pos (by omega)]; first | rfl | (simp; done)) | (rw [if_neg (by omega)]; first | rfl | (simp; done)) | (simp; omega)), (by repeat (first | exact Below.refl _ _ | apply below_alloc | apply pw_below_drewN | apply below_drew1 | (refine Below.setCell ?_ (by first | (simp; done) | (simp; omega) | omega) _) ))⟩)
set_option maxHeartbeats 8000000 in
set_option maxRecDepth 100000 in
theorem form_6 (bx : ByteArray) (u f : Int) (to_ tx : ByteArray) (m : Int) (w : World) (hb : bx.size ≤ 1048576) (ht : to_.size ≤ 1048576) (hx : tx.size ≤ 1048576) (hm : w.cell? ⟨6, 0, none⟩ = some (.int .i64 m)) (hg : 6 < w.heap.size) :
    Calls Tryd.prog 48 #[.agg #[.int .i64 6, .string bx, .int .i64 u, .int .i64 f, .string to_, .string tx]] w fun e w' => e = .returned (.int .i64 (entryFault ⟨6, bx, u, f, to_, tx⟩)) ∧ Below w.heap.size w w' := by
  have hk : ¬ ((⟨6, bx, u, f, to_, tx⟩ : AEntry).kind < 1 ∨ 6 < (⟨6, bx, u, f, to_, tx⟩ : AEntry).kind) := by show ¬ ((6 : Int) < 1 ∨ 6 < (6 : Int)); omega
  have hbare : bareE ⟨6, bx, u, f, to_, tx⟩ = (⟨6, ⟨#[]⟩, 0, 0, to_, tx⟩ : AEntry) := rfl
  have h3 := fun h => ef_form (x := ⟨6, bx, u, f, to_, tx⟩) hk h
  have h6 := fun h h2 => ef_range (x := ⟨6, bx, u, f, to_, tx⟩) hk h h2
  have h1 := fun h h2 h3 => ef_size (x := ⟨6, bx, u, f, to_, tx⟩) hk h h2 h3
  have h0 := fun h h2 h3 => ef_tail (x := ⟨6, bx, u, f, to_, tx⟩) hk h h2 h3
  rw [hbare] at h3 h6 h1 h0
  simp only at h6 h1 h0
  generalize entryFault ⟨6, bx, u, f, to_, tx⟩ = r at *
  clear hbare hk
  cases hq : eqbAEntry ⟨6, bx, u, f, to_, tx⟩ (⟨6, ⟨#[]⟩, 0, 0, to_, tx⟩ : AEntry) with
  | false =>
    obtain rfl := h3 hq
    clear h3 h6 h1 h0
    go_enter Tryd.func48, Tryd.ntmps48
    go_wp2_with fail
    go_region
    all_goals (go_wp2_with fail)
    all_goals (go_ret; exact ⟨(by first | rfl | (simp; done) | (simp [*]; done) | (rw [if_pos (by omega)]; first | rfl | (simp; done)) | (rw [if_neg (by omega)]; first | rfl | (simp; done)) | (simp; omega)), (by repeat (first | exact Below.refl _ _ | apply below_alloc | apply pw_below_drewN | apply below_drew1 | (refine Below.setCell ?_ (by first | (simp; done) | (simp; omega) | omega) _) ))⟩)
  | true =>
    replace h6 := h6 hq
    replace h1 := h1 hq
    replace h0 := h0 hq
    clear h3
    rcases (by omega : f < 0 ∨ (0 ≤ f ∧ 31 < f) ∨ (0 ≤ f ∧ f ≤ 31 ∧ u < 0) ∨ (0 ≤ f ∧ f ≤ 31 ∧ 0 ≤ u ∧ 1048576 < u) ∨ (0 ≤ f ∧ f ≤ 31 ∧ 0 ≤ u ∧ u ≤ 1048576 ∧ 2000 < tx.size) ∨ (0 ≤ f ∧ f ≤ 31 ∧ 0 ≤ u ∧ u ≤ 1048576 ∧ tx.size ≤ 2000)) with g1 | ⟨g1, g2⟩ | ⟨g1, g2, g3⟩ | ⟨g1, g2, g3, g4⟩ | ⟨g1, g2, g3, g4, g5⟩ | ⟨g1, g2, g3, g4, g5⟩
    · obtain rfl := h6 (by omega)
      clear h6 h1 h0
      go_enter Tryd.func48, Tryd.ntmps48
      go_wp2_with fail
      go_region
      all_goals (go_wp2_with fail)
      all_goals (go_ret; exact ⟨(by first | rfl | (simp; done) | (simp [*]; done) | (rw [if_pos (by omega)]; first | rfl | (simp; done)) | (rw [if_neg (by omega)]; first | rfl | (simp; done)) | (simp; omega)), (by repeat (first | exact Below.refl _ _ | apply below_alloc | apply pw_below_drewN | apply below_drew1 | (refine Below.setCell ?_ (by first | (simp; done) | (simp; omega) | omega) _) ))⟩)
    · obtain rfl := h6 (by omega)
      clear h6 h1 h0
      go_enter Tryd.func48, Tryd.ntmps48
      go_wp2_with fail
      go_region
      all_goals (go_wp2_with fail)
      all_goals (go_ret; exact ⟨(by first | rfl | (simp; done) | (simp [*]; done) | (rw [if_pos (by omega)]; first | rfl | (simp; done)) | (rw [if_neg (by omega)]; first | rfl | (simp; done)) | (simp; omega)), (by repeat (first | exact Below.refl _ _ | apply below_alloc | apply pw_below_drewN | apply below_drew1 | (refine Below.setCell ?_ (by first | (simp; done) | (simp; omega) | omega) _) ))⟩)
    · obtain rfl := h6 (by omega)
      clear h6 h1 h0
      go_enter Tryd.func48, Tryd.ntmps48
      go_wp2_with fail
      go_region
      all_goals (go_wp2_with fail)
      all_goals (go_ret; exact ⟨(by first | rfl | (simp; done) | (simp [*]; done) | (rw [if_pos (by omega)]; first | rfl | (simp; done)) | (rw [if_neg (by omega)]; first | rfl | (simp; done)) | (simp; omega)), (by repeat (first | exact Below.refl _ _ | apply below_alloc | apply pw_below_drewN | apply below_drew1 | (refine Below.setCell ?_ (by first | (simp; done) | (simp; omega) | omega) _) ))⟩)
    · obtain rfl := h6 (by omega)
      clear h6 h1 h0
      go_enter Tryd.func48, Tryd.ntmps48
      go_wp2_with fail
      go_region
      all_goals (go_wp2_with fail)
      all_goals (go_ret; exact ⟨(by first | rfl | (simp; done) | (simp [*]; done) | (rw [if_pos (by omega)]; first | rfl | (simp; done)) | (rw [if_neg (by omega)]; first | rfl | (simp; done)) | (simp; omega)), (by repeat (first | exact Below.refl _ _ | apply below_alloc | apply pw_below_drewN | apply below_drew1 | (refine Below.setCell ?_ (by first | (simp; done) | (simp; omega) | omega) _) ))⟩)
    · obtain rfl := h1 (by omega) g5
      clear h6 h1 h0
      have g5' : (2000 : Int) < tx.size := by omega
      go_enter Tryd.func48, Tryd.ntmps48
      go_wp2_with fail
      go_region
      all_goals (go_wp2_with fail)
      all_goals (go_ret; exact ⟨(by first | rfl | (simp; done) | (simp [*]; done) | (rw [if_pos (by omega)]; first | rfl | (simp; done)) | (rw [if_neg (by omega)]; first | rfl | (simp; done)) | (simp; omega)), (by repeat (first | exact Below.refl _ _ | apply below_alloc | apply pw_below_drewN | apply below_drew1 | (refine Below.setCell ?_ (by first | (simp; done) | (simp; omega) | omega) _) ))⟩)
    · replace h0 := h0 (by omega) (by omega)
      have g5' : ¬ (2000 : Int) < tx.size := by omega
      clear h6 h1
      rw [if_pos (by trivial), spoolFault] at h0
      have HL := fun w hm hg => list_calls to_ m w ht hm hg
      generalize listV to_ = lv at *
      obtain ⟨n, l⟩ := lv
      simp only at h0
      have HL := Lib.hid HL
      by_cases hn : n = 0
      · subst hn
        by_cases hl : l.length = 1
        · have hl' : (l.length : Int) = 1 := by omega
          by_cases h100 : to_.size ≤ 100
          · rw [if_pos ⟨rfl, hl, h100⟩] at h0
            subst h0
            have h100' : ¬ (100 : Int) < to_.size := by omega
            go_enter Tryd.func48, Tryd.ntmps48
            go_wp2_with fail
            go_region
            all_goals (go_wp2_with fail; refine (HL.out _ (cell_below (B := w.heap.size) (by repeat (first | exact Below.refl _ _ | apply below_alloc | apply pw_below_drewN | apply below_drew1 | (refine Below.setCell ?_ (by first | (simp; done) | (simp; omega) | omega) _) )) hm hg) (by first | (simp; done) | (simp; omega) | omega)).mono ?_; intro e w1 hw1; obtain ⟨v, rfl, hR1, hb1⟩ := hw1; obtain ⟨A1, c1, rfl⟩ := Kd.R_slice hR1; have hc1 : w1.cell? ⟨w.heap.size, 4, none⟩ = some (.string to_) := (hb1.cell (p := ⟨w.heap.size, 4, none⟩) (by first | (simp; done) | (simp; omega) | omega)).trans (by simp); go_wp2_with fail)
            all_goals (go_ret; exact ⟨(by first | rfl | (simp; done) | (simp [*]; done) | (rw [if_pos (by omega)]; first | rfl | (simp; done)) | (rw [if_neg (by omega)]; first | rfl | (simp; done)) | (simp; omega)), (by repeat (first | exact Below.refl _ _ | apply below_alloc | apply pw_below_drewN | apply below_drew1 | (refine Below.setCell ?_ (by first | (simp; done) | (simp; omega) | omega) _) | (refine below_then ?_ (by first | (simp; done) | (simp; omega) | omega) hb1)))⟩)
          · rw [if_neg (fun h => h100 h.2.2)] at h0
            subst h0
            have h100' : (100 : Int) < to_.size := by omega
            go_enter Tryd.func48, Tryd.ntmps48
            go_wp2_with fail
            go_region
            all_goals (go_wp2_with fail; refine (HL.out _ (cell_below (B := w.heap.size) (by repeat (first | exact Below.refl _ _ | apply below_alloc | apply pw_below_drewN | apply below_drew1 | (refine Below.setCell ?_ (by first | (simp; done) | (simp; omega) | omega) _) )) hm hg) (by first | (simp; done) | (simp; omega) | omega)).mono ?_; intro e w1 hw1; obtain ⟨v, rfl, hR1, hb1⟩ := hw1; obtain ⟨A1, c1, rfl⟩ := Kd.R_slice hR1; have hc1 : w1.cell? ⟨w.heap.size, 4, none⟩ = some (.string to_) := (hb1.cell (p := ⟨w.heap.size, 4, none⟩) (by first | (simp; done) | (simp; omega) | omega)).trans (by simp); go_wp2_with fail)
            all_goals (go_ret; exact ⟨(by first | rfl | (simp; done) | (simp [*]; done) | (rw [if_pos (by omega)]; first | rfl | (simp; done)) | (rw [if_neg (by omega)]; first | rfl | (simp; done)) | (simp; omega)), (by repeat (first | exact Below.refl _ _ | apply below_alloc | apply pw_below_drewN | apply below_drew1 | (refine Below.setCell ?_ (by first | (simp; done) | (simp; omega) | omega) _) | (refine below_then ?_ (by first | (simp; done) | (simp; omega) | omega) hb1)))⟩)
        · rw [if_neg (fun h => hl h.2.1)] at h0
          subst h0
          have hl' : ((l.length : Int) != 1) = true := by rw [bne_iff_ne]; omega
          go_enter Tryd.func48, Tryd.ntmps48
          go_wp2_with fail
          go_region
          all_goals (go_wp2_with fail; refine (HL.out _ (cell_below (B := w.heap.size) (by repeat (first | exact Below.refl _ _ | apply below_alloc | apply pw_below_drewN | apply below_drew1 | (refine Below.setCell ?_ (by first | (simp; done) | (simp; omega) | omega) _) )) hm hg) (by first | (simp; done) | (simp; omega) | omega)).mono ?_; intro e w1 hw1; obtain ⟨v, rfl, hR1, hb1⟩ := hw1; obtain ⟨A1, c1, rfl⟩ := Kd.R_slice hR1; have hc1 : w1.cell? ⟨w.heap.size, 4, none⟩ = some (.string to_) := (hb1.cell (p := ⟨w.heap.size, 4, none⟩) (by first | (simp; done) | (simp; omega) | omega)).trans (by simp); go_wp2_with fail)
          all_goals (go_ret; exact ⟨(by first | rfl | (simp; done) | (simp [*]; done) | (rw [if_pos (by omega)]; first | rfl | (simp; done)) | (rw [if_neg (by omega)]; first | rfl | (simp; done)) | (simp; omega)), (by repeat (first | exact Below.refl _ _ | apply below_alloc | apply pw_below_drewN | apply below_drew1 | (refine Below.setCell ?_ (by first | (simp; done) | (simp; omega) | omega) _) | (refine below_then ?_ (by first | (simp; done) | (simp; omega) | omega) hb1)))⟩)
      · rw [if_neg (fun h => hn h.1)] at h0
        subst h0
        have e1 : (n != 0) = true := by rw [bne_iff_ne]; exact hn
        clear hn
        go_enter Tryd.func48, Tryd.ntmps48
        go_wp2_with fail
        go_region
        all_goals (go_wp2_with fail; refine (HL.out _ (cell_below (B := w.heap.size) (by repeat (first | exact Below.refl _ _ | apply below_alloc | apply pw_below_drewN | apply below_drew1 | (refine Below.setCell ?_ (by first | (simp; done) | (simp; omega) | omega) _) )) hm hg) (by first | (simp; done) | (simp; omega) | omega)).mono ?_; intro e w1 hw1; obtain ⟨v, rfl, hR1, hb1⟩ := hw1; obtain ⟨A1, c1, rfl⟩ := Kd.R_slice hR1; have hc1 : w1.cell? ⟨w.heap.size, 4, none⟩ = some (.string to_) := (hb1.cell (p := ⟨w.heap.size, 4, none⟩) (by first | (simp; done) | (simp; omega) | omega)).trans (by simp); go_wp2_with fail)
        all_goals (go_ret; exact ⟨(by first | rfl | (simp; done) | (simp [*]; done) | (rw [if_pos (by omega)]; first | rfl | (simp; done)) | (rw [if_neg (by omega)]; first | rfl | (simp; done)) | (simp; omega)), (by repeat (first | exact Below.refl _ _ | apply below_alloc | apply pw_below_drewN | apply below_drew1 | (refine Below.setCell ?_ (by first | (simp; done) | (simp; omega) | omega) _) | (refine below_then ?_ (by first | (simp; done) | (simp; omega) | omega) hb1)))⟩)
set_option maxHeartbeats 1000000 in
set_option maxRecDepth 100000 in
theorem form_else (k : Int) (bx : ByteArray) (u f : Int) (to_ tx : ByteArray) (w : World) (hk : k < 1 ∨ 6 < k) :
    Calls Tryd.prog 48 #[.agg #[.int .i64 k, .string bx, .int .i64 u, .int .i64 f, .string to_, .string tx]] w fun e w' => e = .returned (.int .i64 (entryFault ⟨k, bx, u, f, to_, tx⟩)) ∧ Below w.heap.size w w' := by
  rw [ef_kind (x := ⟨k, bx, u, f, to_, tx⟩) hk]
  have k1 : (k == 1) = false := by rw [beq_eq_false_iff_ne]; omega
  have k2 : (k == 2) = false := by rw [beq_eq_false_iff_ne]; omega
  have k3 : (k == 3) = false := by rw [beq_eq_false_iff_ne]; omega
  have k4 : (k == 4) = false := by rw [beq_eq_false_iff_ne]; omega
  have k5 : (k == 5) = false := by rw [beq_eq_false_iff_ne]; omega
  have k6 : (k == 6) = false := by rw [beq_eq_false_iff_ne]; omega
  clear hk
  go_enter Tryd.func48, Tryd.ntmps48
  go_wp2_with fail
  go_ret
  exact ⟨(by first | rfl | (simp; done) | (simp [*]; done) | (rw [if_pos (by omega)]; first | rfl | (simp; done)) | (rw [if_neg (by omega)]; first | rfl | (simp; done)) | (simp; omega)), (by repeat (first | exact Below.refl _ _ | apply below_alloc | apply pw_below_drewN | apply below_drew1 | (refine Below.setCell ?_ (by first | (simp; done) | (simp; omega) | omega) _) ))⟩
theorem form_calls (x : AEntry) (m : Int) (w : World) (hb : x.box.size ≤ 1048576) (ht : x.to_.size ≤ 1048576) (hx : x.text.size ≤ 1048576) (hm : w.cell? ⟨6, 0, none⟩ = some (.int .i64 m)) (hg : 6 < w.heap.size) :
    Calls Tryd.prog 48 #[.agg #[.int .i64 x.kind, .string x.box, .int .i64 x.uid, .int .i64 x.flags, .string x.to_, .string x.text]] w fun e w' => e = .returned (.int .i64 (entryFault x)) ∧ Below w.heap.size w w' := by
  obtain ⟨k, bx, u, f, to_, tx⟩ := x
  rcases (by omega : (k < 1 ∨ 6 < k) ∨ k = 1 ∨ k = 2 ∨ k = 3 ∨ k = 4 ∨ k = 5 ∨ k = 6) with h | rfl | rfl | rfl | rfl | rfl | rfl
  · exact form_else k bx u f to_ tx w h
  · exact form_1 bx u f to_ tx m w hb ht hx hm hg
  · exact form_2 bx u f to_ tx m w hb ht hx hm hg
  · exact form_3 bx u f to_ tx m w hb ht hx hm hg
  · exact form_4 bx u f to_ tx m w hb ht hx hm hg
  · exact form_5 bx u f to_ tx m w hb ht hx hm hg
  · exact form_6 bx u f to_ tx m w hb ht hx hm hg
end Go.Proofs.YtijdghplfhfpaaaDoor.H
