/- Entries: the walk of the reference's EntryFault. -/
import Derived.Test.YtijdghplfhfpaaaDoorBoxB
import Derived.Test.YtijdghplfhfpaaaDoorListH
namespace Go.Proofs.YtijdghplfhfpaaaDoor.H
open Go.RowKit Go.Proofs.YtijdghplfhfpaaaDoorW.PrintWords Go.Proofs.YtijdghplfhfpaaaDoorW.PrintLast Go.Proofs.YtijdghplfhfpaaaDoorW.PrintMore Go.Proofs.YtijdghplfhfpaaaDoor.U
set_option linter.unusedVariables false
set_option linter.unusedSimpArgs false
theorem spool_one {s : ByteArray} {l : List AAddress} (hs : s.size ≤ 100) (h : listP okAddr s 0 = some l) : spoolFault s = if l.length = 1 then 0 else 3 := by
  have hv : listV s = listRes (some l) := by rw [listV, if_neg (by omega), h]
  rw [spoolFault, hv]
  by_cases h1 : l.length = 1
  · rw [if_pos h1, listRes, if_neg (show ¬ 20 < l.length by omega), if_pos ⟨rfl, h1, hs⟩]
  · rw [if_neg h1, listRes]
    by_cases h2 : 20 < l.length
    · rw [if_pos h2, if_neg (fun h => by cases h.1)]
    · rw [if_neg h2, if_neg (fun h => h1 h.2.1)]
theorem spool_none {s : ByteArray} (h : listP okAddr s 0 = none) : spoolFault s = 3 := by
  rw [spoolFault, if_neg]
  intro hh
  have := hh.1
  rw [listV] at this
  split at this
  · cases this
  · rw [h, listRes] at this; cases this
theorem spool_long {s : ByteArray} (h : 100 < s.size) : spoolFault s = 3 := by
  rw [spoolFault, if_neg (fun h2 => by omega)]
theorem eqb_form {k u f u2 f2 : Int} {bx t x bx2 t2 x2 : ByteArray} : eqbAEntry ⟨k, bx, u, f, t, x⟩ ⟨k, bx2, u2, f2, t2, x2⟩ = true ↔ bx = bx2 ∧ u = u2 ∧ f = f2 ∧ t = t2 ∧ x = x2 := by
  rw [eqbAEntry_iff]; simp
theorem eqb_not {k u f u2 f2 : Int} {bx t x bx2 t2 x2 : ByteArray} (h : ¬ (bx = bx2 ∧ u = u2 ∧ f = f2 ∧ t = t2 ∧ x = x2)) : eqbAEntry ⟨k, bx, u, f, t, x⟩ ⟨k, bx2, u2, f2, t2, x2⟩ = false := by
  rw [← Bool.not_eq_true, eqb_form]; exact h
set_option maxHeartbeats 8000000 in
set_option maxRecDepth 100000 in
theorem fault_1 (bx : ByteArray) (u f : Int) (to_ tx : ByteArray) (w : World) (hb : bx.size ≤ 1048576) (ht : to_.size ≤ 1048576) (hx : tx.size ≤ 1048576) :
    Calls Tryd.prog 53 #[.agg #[.int .i64 1, .string bx, .int .i64 u, .int .i64 f, .string to_, .string tx]] w fun e w' => e = .returned (.int .i64 (entryFault ⟨1, bx, u, f, to_, tx⟩)) ∧ Below w.heap.size w w' := by
  have hk : ¬ ((⟨1, bx, u, f, to_, tx⟩ : AEntry).kind < 1 ∨ 6 < (⟨1, bx, u, f, to_, tx⟩ : AEntry).kind) := by show ¬ ((1 : Int) < 1 ∨ 6 < (1 : Int)); omega
  have hbare : bareE ⟨1, bx, u, f, to_, tx⟩ = (⟨1, bx, 0, 0, ⟨#[]⟩, ⟨#[]⟩⟩ : AEntry) := rfl
  have h3 := fun h => ef_form (x := ⟨1, bx, u, f, to_, tx⟩) hk h
  have h6 := fun h h2 => ef_range (x := ⟨1, bx, u, f, to_, tx⟩) hk h h2
  have h1 := fun h h2 h3 => ef_size (x := ⟨1, bx, u, f, to_, tx⟩) hk h h2 h3
  have h0 := fun h h2 h3 => ef_tail (x := ⟨1, bx, u, f, to_, tx⟩) hk h h2 h3
  rw [hbare] at h3 h6 h1 h0
  simp only at h6 h1 h0
  generalize entryFault ⟨1, bx, u, f, to_, tx⟩ = r at *
  clear hbare hk
  by_cases hc : to_ = (⟨#[]⟩ : ByteArray)
  · subst hc
    by_cases hc : tx = (⟨#[]⟩ : ByteArray)
    · subst hc
      by_cases hc : u = 0
      · subst hc
        by_cases hc : f = 0
        · subst hc
          have hq : eqbAEntry (⟨1, bx, 0, 0, ⟨#[]⟩, ⟨#[]⟩⟩ : AEntry) (⟨1, bx, 0, 0, ⟨#[]⟩, ⟨#[]⟩⟩ : AEntry) = true := eqbAEntry_self _
          replace h6 := h6 hq
          replace h1 := h1 hq
          replace h0 := h0 hq
          clear h3 hq
          rcases (by omega : (0 : Int) < 0 ∨ (0 ≤ (0 : Int) ∧ 31 < (0 : Int)) ∨ (0 ≤ (0 : Int) ∧ (0 : Int) ≤ 31 ∧ (0 : Int) < 0) ∨ (0 ≤ (0 : Int) ∧ (0 : Int) ≤ 31 ∧ 0 ≤ (0 : Int) ∧ 1048576 < (0 : Int)) ∨ (0 ≤ (0 : Int) ∧ (0 : Int) ≤ 31 ∧ 0 ≤ (0 : Int) ∧ (0 : Int) ≤ 1048576)) with g1 | ⟨g1, g2⟩ | ⟨g1, g2, g3⟩ | ⟨g1, g2, g3, g4⟩ | ⟨g1, g2, g3, g4⟩
          · first | (exfalso; omega) | (obtain rfl := h6 (by omega); clear h6 h1 h0; go_enter Tryd.func53, Tryd.ntmps53; go_wp2_with (go_at_call 52; first | (refine (in_yes _ _ _ _ (by omega) (by omega)).mono ?_; rintro e w' ⟨rfl, rfl⟩) | (refine (in_no _ _ _ _ (by omega)).mono ?_; rintro e w' ⟨rfl, rfl⟩)); go_ret; exact ⟨(by first | rfl | (simp; done) | (simp [*]; done) | (rw [if_pos (by omega)]; first | rfl | (simp; done)) | (rw [if_neg (by omega)]; first | rfl | (simp; done)) | (simp; omega)), (by repeat (first | exact Below.refl _ _ | apply below_alloc | apply pw_below_drewN | apply below_drew1 | (refine Below.setCell ?_ (by first | (simp; done) | (simp; omega) | omega) _) ))⟩)
          · first | (exfalso; omega) | (obtain rfl := h6 (by omega); clear h6 h1 h0; go_enter Tryd.func53, Tryd.ntmps53; go_wp2_with (go_at_call 52; first | (refine (in_yes _ _ _ _ (by omega) (by omega)).mono ?_; rintro e w' ⟨rfl, rfl⟩) | (refine (in_no _ _ _ _ (by omega)).mono ?_; rintro e w' ⟨rfl, rfl⟩)); go_ret; exact ⟨(by first | rfl | (simp; done) | (simp [*]; done) | (rw [if_pos (by omega)]; first | rfl | (simp; done)) | (rw [if_neg (by omega)]; first | rfl | (simp; done)) | (simp; omega)), (by repeat (first | exact Below.refl _ _ | apply below_alloc | apply pw_below_drewN | apply below_drew1 | (refine Below.setCell ?_ (by first | (simp; done) | (simp; omega) | omega) _) ))⟩)
          · first | (exfalso; omega) | (obtain rfl := h6 (by omega); clear h6 h1 h0; go_enter Tryd.func53, Tryd.ntmps53; go_wp2_with (go_at_call 52; first | (refine (in_yes _ _ _ _ (by omega) (by omega)).mono ?_; rintro e w' ⟨rfl, rfl⟩) | (refine (in_no _ _ _ _ (by omega)).mono ?_; rintro e w' ⟨rfl, rfl⟩)); go_ret; exact ⟨(by first | rfl | (simp; done) | (simp [*]; done) | (rw [if_pos (by omega)]; first | rfl | (simp; done)) | (rw [if_neg (by omega)]; first | rfl | (simp; done)) | (simp; omega)), (by repeat (first | exact Below.refl _ _ | apply below_alloc | apply pw_below_drewN | apply below_drew1 | (refine Below.setCell ?_ (by first | (simp; done) | (simp; omega) | omega) _) ))⟩)
          · first | (exfalso; omega) | (obtain rfl := h6 (by omega); clear h6 h1 h0; go_enter Tryd.func53, Tryd.ntmps53; go_wp2_with (go_at_call 52; first | (refine (in_yes _ _ _ _ (by omega) (by omega)).mono ?_; rintro e w' ⟨rfl, rfl⟩) | (refine (in_no _ _ _ _ (by omega)).mono ?_; rintro e w' ⟨rfl, rfl⟩)); go_ret; exact ⟨(by first | rfl | (simp; done) | (simp [*]; done) | (rw [if_pos (by omega)]; first | rfl | (simp; done)) | (rw [if_neg (by omega)]; first | rfl | (simp; done)) | (simp; omega)), (by repeat (first | exact Below.refl _ _ | apply below_alloc | apply pw_below_drewN | apply below_drew1 | (refine Below.setCell ?_ (by first | (simp; done) | (simp; omega) | omega) _) ))⟩)
          · replace h0 := h0 (by omega) (by decide)
            clear h6 h1
            replace h0 : r = nameFault bx := by rw [h0, if_neg (by omega), nameTail]; simp only; split <;> simp_all
            have HN := fun w => boxName_calls bx w (by omega)
            generalize nameFault bx = nf at *
            subst h0
            have HN := Lib.hid HN
            by_cases hz : r = 0
            · subst hz
              go_enter Tryd.func53, Tryd.ntmps53
              go_wp2_with (first | (go_at_call 52; first | (refine (in_yes _ _ _ _ (by omega) (by omega)).mono ?_; rintro e w' ⟨rfl, rfl⟩) | (refine (in_no _ _ _ _ (by omega)).mono ?_; rintro e w' ⟨rfl, rfl⟩)) | (go_at_call 50; refine (HN.out _).mono ?_; rintro e w1 ⟨rfl, rfl⟩))
              go_ret; exact ⟨(by first | rfl | (simp; done) | (simp [*]; done) | (rw [if_pos (by omega)]; first | rfl | (simp; done)) | (rw [if_neg (by omega)]; first | rfl | (simp; done)) | (simp; omega)), (by repeat (first | exact Below.refl _ _ | apply below_alloc | apply pw_below_drewN | apply below_drew1 | (refine Below.setCell ?_ (by first | (simp; done) | (simp; omega) | omega) _) ))⟩
            · have e1 : (r == 0) = false := by rw [beq_eq_false_iff_ne]; exact hz
              clear hz
              go_enter Tryd.func53, Tryd.ntmps53
              go_wp2_with (first | (go_at_call 52; first | (refine (in_yes _ _ _ _ (by omega) (by omega)).mono ?_; rintro e w' ⟨rfl, rfl⟩) | (refine (in_no _ _ _ _ (by omega)).mono ?_; rintro e w' ⟨rfl, rfl⟩)) | (go_at_call 50; refine (HN.out _).mono ?_; rintro e w1 ⟨rfl, rfl⟩))
              go_ret; exact ⟨(by first | rfl | (simp; done) | (simp [*]; done) | (rw [if_pos (by omega)]; first | rfl | (simp; done)) | (rw [if_neg (by omega)]; first | rfl | (simp; done)) | (simp; omega)), (by repeat (first | exact Below.refl _ _ | apply below_alloc | apply pw_below_drewN | apply below_drew1 | (refine Below.setCell ?_ (by first | (simp; done) | (simp; omega) | omega) _) ))⟩
        · have q_ : (f != 0) = true := by rw [bne_iff_ne]; exact hc
          obtain rfl := h3 (eqb_not (fun h => by simp_all)); clear h3 h6 h1 h0; go_enter Tryd.func53, Tryd.ntmps53; go_wp2_with (go_at_call 52; first | (refine (in_yes _ _ _ _ (by omega) (by omega)).mono ?_; rintro e w' ⟨rfl, rfl⟩) | (refine (in_no _ _ _ _ (by omega)).mono ?_; rintro e w' ⟨rfl, rfl⟩)); go_ret; exact ⟨(by first | rfl | (simp; done) | (simp [*]; done) | (rw [if_pos (by omega)]; first | rfl | (simp; done)) | (rw [if_neg (by omega)]; first | rfl | (simp; done)) | (simp; omega)), (by repeat (first | exact Below.refl _ _ | apply below_alloc | apply pw_below_drewN | apply below_drew1 | (refine Below.setCell ?_ (by first | (simp; done) | (simp; omega) | omega) _) ))⟩
      · have q_ : (u != 0) = true := by rw [bne_iff_ne]; exact hc
        obtain rfl := h3 (eqb_not (fun h => by simp_all)); clear h3 h6 h1 h0; go_enter Tryd.func53, Tryd.ntmps53; go_wp2_with (go_at_call 52; first | (refine (in_yes _ _ _ _ (by omega) (by omega)).mono ?_; rintro e w' ⟨rfl, rfl⟩) | (refine (in_no _ _ _ _ (by omega)).mono ?_; rintro e w' ⟨rfl, rfl⟩)); go_ret; exact ⟨(by first | rfl | (simp; done) | (simp [*]; done) | (rw [if_pos (by omega)]; first | rfl | (simp; done)) | (rw [if_neg (by omega)]; first | rfl | (simp; done)) | (simp; omega)), (by repeat (first | exact Below.refl _ _ | apply below_alloc | apply pw_below_drewN | apply below_drew1 | (refine Below.setCell ?_ (by first | (simp; done) | (simp; omega) | omega) _) ))⟩
    · have q_ := lit_no (l := []) hc
      obtain rfl := h3 (eqb_not (fun h => by simp_all)); clear h3 h6 h1 h0; go_enter Tryd.func53, Tryd.ntmps53; go_wp2_with (go_at_call 52; first | (refine (in_yes _ _ _ _ (by omega) (by omega)).mono ?_; rintro e w' ⟨rfl, rfl⟩) | (refine (in_no _ _ _ _ (by omega)).mono ?_; rintro e w' ⟨rfl, rfl⟩)); go_ret; exact ⟨(by first | rfl | (simp; done) | (simp [*]; done) | (rw [if_pos (by omega)]; first | rfl | (simp; done)) | (rw [if_neg (by omega)]; first | rfl | (simp; done)) | (simp; omega)), (by repeat (first | exact Below.refl _ _ | apply below_alloc | apply pw_below_drewN | apply below_drew1 | (refine Below.setCell ?_ (by first | (simp; done) | (simp; omega) | omega) _) ))⟩
  · have q_ := lit_no (l := []) hc
    obtain rfl := h3 (eqb_not (fun h => by simp_all)); clear h3 h6 h1 h0; go_enter Tryd.func53, Tryd.ntmps53; go_wp2_with (go_at_call 52; first | (refine (in_yes _ _ _ _ (by omega) (by omega)).mono ?_; rintro e w' ⟨rfl, rfl⟩) | (refine (in_no _ _ _ _ (by omega)).mono ?_; rintro e w' ⟨rfl, rfl⟩)); go_ret; exact ⟨(by first | rfl | (simp; done) | (simp [*]; done) | (rw [if_pos (by omega)]; first | rfl | (simp; done)) | (rw [if_neg (by omega)]; first | rfl | (simp; done)) | (simp; omega)), (by repeat (first | exact Below.refl _ _ | apply below_alloc | apply pw_below_drewN | apply below_drew1 | (refine Below.setCell ?_ (by first | (simp; done) | (simp; omega) | omega) _) ))⟩
set_option maxHeartbeats 8000000 in
set_option maxRecDepth 100000 in
theorem fault_2 (bx : ByteArray) (u f : Int) (to_ tx : ByteArray) (w : World) (hb : bx.size ≤ 1048576) (ht : to_.size ≤ 1048576) (hx : tx.size ≤ 1048576) :
    Calls Tryd.prog 53 #[.agg #[.int .i64 2, .string bx, .int .i64 u, .int .i64 f, .string to_, .string tx]] w fun e w' => e = .returned (.int .i64 (entryFault ⟨2, bx, u, f, to_, tx⟩)) ∧ Below w.heap.size w w' := by
  have hk : ¬ ((⟨2, bx, u, f, to_, tx⟩ : AEntry).kind < 1 ∨ 6 < (⟨2, bx, u, f, to_, tx⟩ : AEntry).kind) := by show ¬ ((2 : Int) < 1 ∨ 6 < (2 : Int)); omega
  have hbare : bareE ⟨2, bx, u, f, to_, tx⟩ = (⟨2, bx, 0, f, ⟨#[]⟩, tx⟩ : AEntry) := rfl
  have h3 := fun h => ef_form (x := ⟨2, bx, u, f, to_, tx⟩) hk h
  have h6 := fun h h2 => ef_range (x := ⟨2, bx, u, f, to_, tx⟩) hk h h2
  have h1 := fun h h2 h3 => ef_size (x := ⟨2, bx, u, f, to_, tx⟩) hk h h2 h3
  have h0 := fun h h2 h3 => ef_tail (x := ⟨2, bx, u, f, to_, tx⟩) hk h h2 h3
  rw [hbare] at h3 h6 h1 h0
  simp only at h6 h1 h0
  generalize entryFault ⟨2, bx, u, f, to_, tx⟩ = r at *
  clear hbare hk
  by_cases hc : to_ = (⟨#[]⟩ : ByteArray)
  · subst hc
    by_cases hc : u = 0
    · subst hc
      have hq : eqbAEntry (⟨2, bx, 0, f, ⟨#[]⟩, tx⟩ : AEntry) (⟨2, bx, 0, f, ⟨#[]⟩, tx⟩ : AEntry) = true := eqbAEntry_self _
      replace h6 := h6 hq
      replace h1 := h1 hq
      replace h0 := h0 hq
      clear h3 hq
      rcases (by omega : f < 0 ∨ (0 ≤ f ∧ 31 < f) ∨ (0 ≤ f ∧ f ≤ 31 ∧ (0 : Int) < 0) ∨ (0 ≤ f ∧ f ≤ 31 ∧ 0 ≤ (0 : Int) ∧ 1048576 < (0 : Int)) ∨ (0 ≤ f ∧ f ≤ 31 ∧ 0 ≤ (0 : Int) ∧ (0 : Int) ≤ 1048576)) with g1 | ⟨g1, g2⟩ | ⟨g1, g2, g3⟩ | ⟨g1, g2, g3, g4⟩ | ⟨g1, g2, g3, g4⟩
      · first | (exfalso; omega) | (obtain rfl := h6 (by omega); clear h6 h1 h0; go_enter Tryd.func53, Tryd.ntmps53; go_wp2_with (go_at_call 52; first | (refine (in_yes _ _ _ _ (by omega) (by omega)).mono ?_; rintro e w' ⟨rfl, rfl⟩) | (refine (in_no _ _ _ _ (by omega)).mono ?_; rintro e w' ⟨rfl, rfl⟩)); go_ret; exact ⟨(by first | rfl | (simp; done) | (simp [*]; done) | (rw [if_pos (by omega)]; first | rfl | (simp; done)) | (rw [if_neg (by omega)]; first | rfl | (simp; done)) | (simp; omega)), (by repeat (first | exact Below.refl _ _ | apply below_alloc | apply pw_below_drewN | apply below_drew1 | (refine Below.setCell ?_ (by first | (simp; done) | (simp; omega) | omega) _) ))⟩)
      · first | (exfalso; omega) | (obtain rfl := h6 (by omega); clear h6 h1 h0; go_enter Tryd.func53, Tryd.ntmps53; go_wp2_with (go_at_call 52; first | (refine (in_yes _ _ _ _ (by omega) (by omega)).mono ?_; rintro e w' ⟨rfl, rfl⟩) | (refine (in_no _ _ _ _ (by omega)).mono ?_; rintro e w' ⟨rfl, rfl⟩)); go_ret; exact ⟨(by first | rfl | (simp; done) | (simp [*]; done) | (rw [if_pos (by omega)]; first | rfl | (simp; done)) | (rw [if_neg (by omega)]; first | rfl | (simp; done)) | (simp; omega)), (by repeat (first | exact Below.refl _ _ | apply below_alloc | apply pw_below_drewN | apply below_drew1 | (refine Below.setCell ?_ (by first | (simp; done) | (simp; omega) | omega) _) ))⟩)
      · first | (exfalso; omega) | (obtain rfl := h6 (by omega); clear h6 h1 h0; go_enter Tryd.func53, Tryd.ntmps53; go_wp2_with (go_at_call 52; first | (refine (in_yes _ _ _ _ (by omega) (by omega)).mono ?_; rintro e w' ⟨rfl, rfl⟩) | (refine (in_no _ _ _ _ (by omega)).mono ?_; rintro e w' ⟨rfl, rfl⟩)); go_ret; exact ⟨(by first | rfl | (simp; done) | (simp [*]; done) | (rw [if_pos (by omega)]; first | rfl | (simp; done)) | (rw [if_neg (by omega)]; first | rfl | (simp; done)) | (simp; omega)), (by repeat (first | exact Below.refl _ _ | apply below_alloc | apply pw_below_drewN | apply below_drew1 | (refine Below.setCell ?_ (by first | (simp; done) | (simp; omega) | omega) _) ))⟩)
      · first | (exfalso; omega) | (obtain rfl := h6 (by omega); clear h6 h1 h0; go_enter Tryd.func53, Tryd.ntmps53; go_wp2_with (go_at_call 52; first | (refine (in_yes _ _ _ _ (by omega) (by omega)).mono ?_; rintro e w' ⟨rfl, rfl⟩) | (refine (in_no _ _ _ _ (by omega)).mono ?_; rintro e w' ⟨rfl, rfl⟩)); go_ret; exact ⟨(by first | rfl | (simp; done) | (simp [*]; done) | (rw [if_pos (by omega)]; first | rfl | (simp; done)) | (rw [if_neg (by omega)]; first | rfl | (simp; done)) | (simp; omega)), (by repeat (first | exact Below.refl _ _ | apply below_alloc | apply pw_below_drewN | apply below_drew1 | (refine Below.setCell ?_ (by first | (simp; done) | (simp; omega) | omega) _) ))⟩)
      · by_cases g5 : 2000 < tx.size
        · first | (exfalso; simp at g5; done) | (obtain rfl := h1 (by omega) g5; clear h6 h1 h0; have g5' : (2000 : Int) < tx.size := (by omega); go_enter Tryd.func53, Tryd.ntmps53; go_wp2_with (go_at_call 52; first | (refine (in_yes _ _ _ _ (by omega) (by omega)).mono ?_; rintro e w' ⟨rfl, rfl⟩) | (refine (in_no _ _ _ _ (by omega)).mono ?_; rintro e w' ⟨rfl, rfl⟩)); go_ret; exact ⟨(by first | rfl | (simp; done) | (simp [*]; done) | (rw [if_pos (by omega)]; first | rfl | (simp; done)) | (rw [if_neg (by omega)]; first | rfl | (simp; done)) | (simp; omega)), (by repeat (first | exact Below.refl _ _ | apply below_alloc | apply pw_below_drewN | apply below_drew1 | (refine Below.setCell ?_ (by first | (simp; done) | (simp; omega) | omega) _) ))⟩)
        · replace h0 := h0 (by omega) (by first | exact g5 | omega)
          have g5' : ¬ (2000 : Int) < tx.size := by omega
          clear h6 h1
          replace h0 : r = nameFault bx := by rw [h0, if_neg (by omega), nameTail]; simp only; split <;> simp_all
          have HN := fun w => boxName_calls bx w (by omega)
          generalize nameFault bx = nf at *
          subst h0
          have HN := Lib.hid HN
          by_cases hz : r = 0
          · subst hz
            go_enter Tryd.func53, Tryd.ntmps53
            go_wp2_with (first | (go_at_call 52; first | (refine (in_yes _ _ _ _ (by omega) (by omega)).mono ?_; rintro e w' ⟨rfl, rfl⟩) | (refine (in_no _ _ _ _ (by omega)).mono ?_; rintro e w' ⟨rfl, rfl⟩)) | (go_at_call 50; refine (HN.out _).mono ?_; rintro e w1 ⟨rfl, rfl⟩))
            go_ret; exact ⟨(by first | rfl | (simp; done) | (simp [*]; done) | (rw [if_pos (by omega)]; first | rfl | (simp; done)) | (rw [if_neg (by omega)]; first | rfl | (simp; done)) | (simp; omega)), (by repeat (first | exact Below.refl _ _ | apply below_alloc | apply pw_below_drewN | apply below_drew1 | (refine Below.setCell ?_ (by first | (simp; done) | (simp; omega) | omega) _) ))⟩
          · have e1 : (r == 0) = false := by rw [beq_eq_false_iff_ne]; exact hz
            clear hz
            go_enter Tryd.func53, Tryd.ntmps53
            go_wp2_with (first | (go_at_call 52; first | (refine (in_yes _ _ _ _ (by omega) (by omega)).mono ?_; rintro e w' ⟨rfl, rfl⟩) | (refine (in_no _ _ _ _ (by omega)).mono ?_; rintro e w' ⟨rfl, rfl⟩)) | (go_at_call 50; refine (HN.out _).mono ?_; rintro e w1 ⟨rfl, rfl⟩))
            go_ret; exact ⟨(by first | rfl | (simp; done) | (simp [*]; done) | (rw [if_pos (by omega)]; first | rfl | (simp; done)) | (rw [if_neg (by omega)]; first | rfl | (simp; done)) | (simp; omega)), (by repeat (first | exact Below.refl _ _ | apply below_alloc | apply pw_below_drewN | apply below_drew1 | (refine Below.setCell ?_ (by first | (simp; done) | (simp; omega) | omega) _) ))⟩
    · have q_ : (u != 0) = true := by rw [bne_iff_ne]; exact hc
      obtain rfl := h3 (eqb_not (fun h => by simp_all)); clear h3 h6 h1 h0; go_enter Tryd.func53, Tryd.ntmps53; go_wp2_with (go_at_call 52; first | (refine (in_yes _ _ _ _ (by omega) (by omega)).mono ?_; rintro e w' ⟨rfl, rfl⟩) | (refine (in_no _ _ _ _ (by omega)).mono ?_; rintro e w' ⟨rfl, rfl⟩)); go_ret; exact ⟨(by first | rfl | (simp; done) | (simp [*]; done) | (rw [if_pos (by omega)]; first | rfl | (simp; done)) | (rw [if_neg (by omega)]; first | rfl | (simp; done)) | (simp; omega)), (by repeat (first | exact Below.refl _ _ | apply below_alloc | apply pw_below_drewN | apply below_drew1 | (refine Below.setCell ?_ (by first | (simp; done) | (simp; omega) | omega) _) ))⟩
  · have q_ := lit_no (l := []) hc
    obtain rfl := h3 (eqb_not (fun h => by simp_all)); clear h3 h6 h1 h0; go_enter Tryd.func53, Tryd.ntmps53; go_wp2_with (go_at_call 52; first | (refine (in_yes _ _ _ _ (by omega) (by omega)).mono ?_; rintro e w' ⟨rfl, rfl⟩) | (refine (in_no _ _ _ _ (by omega)).mono ?_; rintro e w' ⟨rfl, rfl⟩)); go_ret; exact ⟨(by first | rfl | (simp; done) | (simp [*]; done) | (rw [if_pos (by omega)]; first | rfl | (simp; done)) | (rw [if_neg (by omega)]; first | rfl | (simp; done)) | (simp; omega)), (by repeat (first | exact Below.refl _ _ | apply below_alloc | apply pw_below_drewN | apply below_drew1 | (refine Below.setCell ?_ (by first | (simp; done) | (simp; omega) | omega) _) ))⟩
set_option maxHeartbeats 8000000 in
set_option maxRecDepth 100000 in
theorem fault_3 (bx : ByteArray) (u f : Int) (to_ tx : ByteArray) (w : World) (hb : bx.size ≤ 1048576) (ht : to_.size ≤ 1048576) (hx : tx.size ≤ 1048576) :
    Calls Tryd.prog 53 #[.agg #[.int .i64 3, .string bx, .int .i64 u, .int .i64 f, .string to_, .string tx]] w fun e w' => e = .returned (.int .i64 (entryFault ⟨3, bx, u, f, to_, tx⟩)) ∧ Below w.heap.size w w' := by
  have hk : ¬ ((⟨3, bx, u, f, to_, tx⟩ : AEntry).kind < 1 ∨ 6 < (⟨3, bx, u, f, to_, tx⟩ : AEntry).kind) := by show ¬ ((3 : Int) < 1 ∨ 6 < (3 : Int)); omega
  have hbare : bareE ⟨3, bx, u, f, to_, tx⟩ = (⟨3, bx, u, f, ⟨#[]⟩, ⟨#[]⟩⟩ : AEntry) := rfl
  have h3 := fun h => ef_form (x := ⟨3, bx, u, f, to_, tx⟩) hk h
  have h6 := fun h h2 => ef_range (x := ⟨3, bx, u, f, to_, tx⟩) hk h h2
  have h1 := fun h h2 h3 => ef_size (x := ⟨3, bx, u, f, to_, tx⟩) hk h h2 h3
  have h0 := fun h h2 h3 => ef_tail (x := ⟨3, bx, u, f, to_, tx⟩) hk h h2 h3
  rw [hbare] at h3 h6 h1 h0
  simp only at h6 h1 h0
  generalize entryFault ⟨3, bx, u, f, to_, tx⟩ = r at *
  clear hbare hk
  by_cases hc : to_ = (⟨#[]⟩ : ByteArray)
  · subst hc
    by_cases hc : tx = (⟨#[]⟩ : ByteArray)
    · subst hc
      have hq : eqbAEntry (⟨3, bx, u, f, ⟨#[]⟩, ⟨#[]⟩⟩ : AEntry) (⟨3, bx, u, f, ⟨#[]⟩, ⟨#[]⟩⟩ : AEntry) = true := eqbAEntry_self _
      replace h6 := h6 hq
      replace h1 := h1 hq
      replace h0 := h0 hq
      clear h3 hq
      rcases (by omega : f < 0 ∨ (0 ≤ f ∧ 31 < f) ∨ (0 ≤ f ∧ f ≤ 31 ∧ u < 0) ∨ (0 ≤ f ∧ f ≤ 31 ∧ 0 ≤ u ∧ 1048576 < u) ∨ (0 ≤ f ∧ f ≤ 31 ∧ 0 ≤ u ∧ u ≤ 1048576)) with g1 | ⟨g1, g2⟩ | ⟨g1, g2, g3⟩ | ⟨g1, g2, g3, g4⟩ | ⟨g1, g2, g3, g4⟩
      · first | (exfalso; omega) | (obtain rfl := h6 (by omega); clear h6 h1 h0; go_enter Tryd.func53, Tryd.ntmps53; go_wp2_with (go_at_call 52; first | (refine (in_yes _ _ _ _ (by omega) (by omega)).mono ?_; rintro e w' ⟨rfl, rfl⟩) | (refine (in_no _ _ _ _ (by omega)).mono ?_; rintro e w' ⟨rfl, rfl⟩)); go_ret; exact ⟨(by first | rfl | (simp; done) | (simp [*]; done) | (rw [if_pos (by omega)]; first | rfl | (simp; done)) | (rw [if_neg (by omega)]; first | rfl | (simp; done)) | (simp; omega)), (by repeat (first | exact Below.refl _ _ | apply below_alloc | apply pw_below_drewN | apply below_drew1 | (refine Below.setCell ?_ (by first | (simp; done) | (simp; omega) | omega) _) ))⟩)
      · first | (exfalso; omega) | (obtain rfl := h6 (by omega); clear h6 h1 h0; go_enter Tryd.func53, Tryd.ntmps53; go_wp2_with (go_at_call 52; first | (refine (in_yes _ _ _ _ (by omega) (by omega)).mono ?_; rintro e w' ⟨rfl, rfl⟩) | (refine (in_no _ _ _ _ (by omega)).mono ?_; rintro e w' ⟨rfl, rfl⟩)); go_ret; exact ⟨(by first | rfl | (simp; done) | (simp [*]; done) | (rw [if_pos (by omega)]; first | rfl | (simp; done)) | (rw [if_neg (by omega)]; first | rfl | (simp; done)) | (simp; omega)), (by repeat (first | exact Below.refl _ _ | apply below_alloc | apply pw_below_drewN | apply below_drew1 | (refine Below.setCell ?_ (by first | (simp; done) | (simp; omega) | omega) _) ))⟩)
      · first | (exfalso; omega) | (obtain rfl := h6 (by omega); clear h6 h1 h0; go_enter Tryd.func53, Tryd.ntmps53; go_wp2_with (go_at_call 52; first | (refine (in_yes _ _ _ _ (by omega) (by omega)).mono ?_; rintro e w' ⟨rfl, rfl⟩) | (refine (in_no _ _ _ _ (by omega)).mono ?_; rintro e w' ⟨rfl, rfl⟩)); go_ret; exact ⟨(by first | rfl | (simp; done) | (simp [*]; done) | (rw [if_pos (by omega)]; first | rfl | (simp; done)) | (rw [if_neg (by omega)]; first | rfl | (simp; done)) | (simp; omega)), (by repeat (first | exact Below.refl _ _ | apply below_alloc | apply pw_below_drewN | apply below_drew1 | (refine Below.setCell ?_ (by first | (simp; done) | (simp; omega) | omega) _) ))⟩)
      · first | (exfalso; omega) | (obtain rfl := h6 (by omega); clear h6 h1 h0; go_enter Tryd.func53, Tryd.ntmps53; go_wp2_with (go_at_call 52; first | (refine (in_yes _ _ _ _ (by omega) (by omega)).mono ?_; rintro e w' ⟨rfl, rfl⟩) | (refine (in_no _ _ _ _ (by omega)).mono ?_; rintro e w' ⟨rfl, rfl⟩)); go_ret; exact ⟨(by first | rfl | (simp; done) | (simp [*]; done) | (rw [if_pos (by omega)]; first | rfl | (simp; done)) | (rw [if_neg (by omega)]; first | rfl | (simp; done)) | (simp; omega)), (by repeat (first | exact Below.refl _ _ | apply below_alloc | apply pw_below_drewN | apply below_drew1 | (refine Below.setCell ?_ (by first | (simp; done) | (simp; omega) | omega) _) ))⟩)
      · replace h0 := h0 (by omega) (by decide)
        clear h6 h1
        replace h0 : r = nameFault bx := by rw [h0, if_neg (by omega), nameTail]; simp only; split <;> simp_all
        have HN := fun w => boxName_calls bx w (by omega)
        generalize nameFault bx = nf at *
        subst h0
        have HN := Lib.hid HN
        by_cases hz : r = 0
        · subst hz
          go_enter Tryd.func53, Tryd.ntmps53
          go_wp2_with (first | (go_at_call 52; first | (refine (in_yes _ _ _ _ (by omega) (by omega)).mono ?_; rintro e w' ⟨rfl, rfl⟩) | (refine (in_no _ _ _ _ (by omega)).mono ?_; rintro e w' ⟨rfl, rfl⟩)) | (go_at_call 50; refine (HN.out _).mono ?_; rintro e w1 ⟨rfl, rfl⟩))
          go_ret; exact ⟨(by first | rfl | (simp; done) | (simp [*]; done) | (rw [if_pos (by omega)]; first | rfl | (simp; done)) | (rw [if_neg (by omega)]; first | rfl | (simp; done)) | (simp; omega)), (by repeat (first | exact Below.refl _ _ | apply below_alloc | apply pw_below_drewN | apply below_drew1 | (refine Below.setCell ?_ (by first | (simp; done) | (simp; omega) | omega) _) ))⟩
        · have e1 : (r == 0) = false := by rw [beq_eq_false_iff_ne]; exact hz
          clear hz
          go_enter Tryd.func53, Tryd.ntmps53
          go_wp2_with (first | (go_at_call 52; first | (refine (in_yes _ _ _ _ (by omega) (by omega)).mono ?_; rintro e w' ⟨rfl, rfl⟩) | (refine (in_no _ _ _ _ (by omega)).mono ?_; rintro e w' ⟨rfl, rfl⟩)) | (go_at_call 50; refine (HN.out _).mono ?_; rintro e w1 ⟨rfl, rfl⟩))
          go_ret; exact ⟨(by first | rfl | (simp; done) | (simp [*]; done) | (rw [if_pos (by omega)]; first | rfl | (simp; done)) | (rw [if_neg (by omega)]; first | rfl | (simp; done)) | (simp; omega)), (by repeat (first | exact Below.refl _ _ | apply below_alloc | apply pw_below_drewN | apply below_drew1 | (refine Below.setCell ?_ (by first | (simp; done) | (simp; omega) | omega) _) ))⟩
    · have q_ := lit_no (l := []) hc
      obtain rfl := h3 (eqb_not (fun h => by simp_all)); clear h3 h6 h1 h0; go_enter Tryd.func53, Tryd.ntmps53; go_wp2_with (go_at_call 52; first | (refine (in_yes _ _ _ _ (by omega) (by omega)).mono ?_; rintro e w' ⟨rfl, rfl⟩) | (refine (in_no _ _ _ _ (by omega)).mono ?_; rintro e w' ⟨rfl, rfl⟩)); go_ret; exact ⟨(by first | rfl | (simp; done) | (simp [*]; done) | (rw [if_pos (by omega)]; first | rfl | (simp; done)) | (rw [if_neg (by omega)]; first | rfl | (simp; done)) | (simp; omega)), (by repeat (first | exact Below.refl _ _ | apply below_alloc | apply pw_below_drewN | apply below_drew1 | (refine Below.setCell ?_ (by first | (simp; done) | (simp; omega) | omega) _) ))⟩
  · have q_ := lit_no (l := []) hc
    obtain rfl := h3 (eqb_not (fun h => by simp_all)); clear h3 h6 h1 h0; go_enter Tryd.func53, Tryd.ntmps53; go_wp2_with (go_at_call 52; first | (refine (in_yes _ _ _ _ (by omega) (by omega)).mono ?_; rintro e w' ⟨rfl, rfl⟩) | (refine (in_no _ _ _ _ (by omega)).mono ?_; rintro e w' ⟨rfl, rfl⟩)); go_ret; exact ⟨(by first | rfl | (simp; done) | (simp [*]; done) | (rw [if_pos (by omega)]; first | rfl | (simp; done)) | (rw [if_neg (by omega)]; first | rfl | (simp; done)) | (simp; omega)), (by repeat (first | exact Below.refl _ _ | apply below_alloc | apply pw_below_drewN | apply below_drew1 | (refine Below.setCell ?_ (by first | (simp; done) | (simp; omega) | omega) _) ))⟩
set_option maxHeartbeats 8000000 in
set_option maxRecDepth 100000 in
theorem fault_4 (bx : ByteArray) (u f : Int) (to_ tx : ByteArray) (w : World) (hb : bx.size ≤ 1048576) (ht : to_.size ≤ 1048576) (hx : tx.size ≤ 1048576) :
    Calls Tryd.prog 53 #[.agg #[.int .i64 4, .string bx, .int .i64 u, .int .i64 f, .string to_, .string tx]] w fun e w' => e = .returned (.int .i64 (entryFault ⟨4, bx, u, f, to_, tx⟩)) ∧ Below w.heap.size w w' := by
  have hk : ¬ ((⟨4, bx, u, f, to_, tx⟩ : AEntry).kind < 1 ∨ 6 < (⟨4, bx, u, f, to_, tx⟩ : AEntry).kind) := by show ¬ ((4 : Int) < 1 ∨ 6 < (4 : Int)); omega
  have hbare : bareE ⟨4, bx, u, f, to_, tx⟩ = (⟨4, bx, 0, 0, ⟨#[]⟩, ⟨#[]⟩⟩ : AEntry) := rfl
  have h3 := fun h => ef_form (x := ⟨4, bx, u, f, to_, tx⟩) hk h
  have h6 := fun h h2 => ef_range (x := ⟨4, bx, u, f, to_, tx⟩) hk h h2
  have h1 := fun h h2 h3 => ef_size (x := ⟨4, bx, u, f, to_, tx⟩) hk h h2 h3
  have h0 := fun h h2 h3 => ef_tail (x := ⟨4, bx, u, f, to_, tx⟩) hk h h2 h3
  rw [hbare] at h3 h6 h1 h0
  simp only at h6 h1 h0
  generalize entryFault ⟨4, bx, u, f, to_, tx⟩ = r at *
  clear hbare hk
  by_cases hc : to_ = (⟨#[]⟩ : ByteArray)
  · subst hc
    by_cases hc : tx = (⟨#[]⟩ : ByteArray)
    · subst hc
      by_cases hc : u = 0
      · subst hc
        by_cases hc : f = 0
        · subst hc
          have hq : eqbAEntry (⟨4, bx, 0, 0, ⟨#[]⟩, ⟨#[]⟩⟩ : AEntry) (⟨4, bx, 0, 0, ⟨#[]⟩, ⟨#[]⟩⟩ : AEntry) = true := eqbAEntry_self _
          replace h6 := h6 hq
          replace h1 := h1 hq
          replace h0 := h0 hq
          clear h3 hq
          rcases (by omega : (0 : Int) < 0 ∨ (0 ≤ (0 : Int) ∧ 31 < (0 : Int)) ∨ (0 ≤ (0 : Int) ∧ (0 : Int) ≤ 31 ∧ (0 : Int) < 0) ∨ (0 ≤ (0 : Int) ∧ (0 : Int) ≤ 31 ∧ 0 ≤ (0 : Int) ∧ 1048576 < (0 : Int)) ∨ (0 ≤ (0 : Int) ∧ (0 : Int) ≤ 31 ∧ 0 ≤ (0 : Int) ∧ (0 : Int) ≤ 1048576)) with g1 | ⟨g1, g2⟩ | ⟨g1, g2, g3⟩ | ⟨g1, g2, g3, g4⟩ | ⟨g1, g2, g3, g4⟩
          · first | (exfalso; omega) | (obtain rfl := h6 (by omega); clear h6 h1 h0; go_enter Tryd.func53, Tryd.ntmps53; go_wp2_with (go_at_call 52; first | (refine (in_yes _ _ _ _ (by omega) (by omega)).mono ?_; rintro e w' ⟨rfl, rfl⟩) | (refine (in_no _ _ _ _ (by omega)).mono ?_; rintro e w' ⟨rfl, rfl⟩)); go_ret; exact ⟨(by first | rfl | (simp; done) | (simp [*]; done) | (rw [if_pos (by omega)]; first | rfl | (simp; done)) | (rw [if_neg (by omega)]; first | rfl | (simp; done)) | (simp; omega)), (by repeat (first | exact Below.refl _ _ | apply below_alloc | apply pw_below_drewN | apply below_drew1 | (refine Below.setCell ?_ (by first | (simp; done) | (simp; omega) | omega) _) ))⟩)
          · first | (exfalso; omega) | (obtain rfl := h6 (by omega); clear h6 h1 h0; go_enter Tryd.func53, Tryd.ntmps53; go_wp2_with (go_at_call 52; first | (refine (in_yes _ _ _ _ (by omega) (by omega)).mono ?_; rintro e w' ⟨rfl, rfl⟩) | (refine (in_no _ _ _ _ (by omega)).mono ?_; rintro e w' ⟨rfl, rfl⟩)); go_ret; exact ⟨(by first | rfl | (simp; done) | (simp [*]; done) | (rw [if_pos (by omega)]; first | rfl | (simp; done)) | (rw [if_neg (by omega)]; first | rfl | (simp; done)) | (simp; omega)), (by repeat (first | exact Below.refl _ _ | apply below_alloc | apply pw_below_drewN | apply below_drew1 | (refine Below.setCell ?_ (by first | (simp; done) | (simp; omega) | omega) _) ))⟩)
          · first | (exfalso; omega) | (obtain rfl := h6 (by omega); clear h6 h1 h0; go_enter Tryd.func53, Tryd.ntmps53; go_wp2_with (go_at_call 52; first | (refine (in_yes _ _ _ _ (by omega) (by omega)).mono ?_; rintro e w' ⟨rfl, rfl⟩) | (refine (in_no _ _ _ _ (by omega)).mono ?_; rintro e w' ⟨rfl, rfl⟩)); go_ret; exact ⟨(by first | rfl | (simp; done) | (simp [*]; done) | (rw [if_pos (by omega)]; first | rfl | (simp; done)) | (rw [if_neg (by omega)]; first | rfl | (simp; done)) | (simp; omega)), (by repeat (first | exact Below.refl _ _ | apply below_alloc | apply pw_below_drewN | apply below_drew1 | (refine Below.setCell ?_ (by first | (simp; done) | (simp; omega) | omega) _) ))⟩)
          · first | (exfalso; omega) | (obtain rfl := h6 (by omega); clear h6 h1 h0; go_enter Tryd.func53, Tryd.ntmps53; go_wp2_with (go_at_call 52; first | (refine (in_yes _ _ _ _ (by omega) (by omega)).mono ?_; rintro e w' ⟨rfl, rfl⟩) | (refine (in_no _ _ _ _ (by omega)).mono ?_; rintro e w' ⟨rfl, rfl⟩)); go_ret; exact ⟨(by first | rfl | (simp; done) | (simp [*]; done) | (rw [if_pos (by omega)]; first | rfl | (simp; done)) | (rw [if_neg (by omega)]; first | rfl | (simp; done)) | (simp; omega)), (by repeat (first | exact Below.refl _ _ | apply below_alloc | apply pw_below_drewN | apply below_drew1 | (refine Below.setCell ?_ (by first | (simp; done) | (simp; omega) | omega) _) ))⟩)
          · replace h0 := h0 (by omega) (by decide)
            clear h6 h1
            replace h0 : r = nameFault bx := by rw [h0, if_neg (by omega), nameTail]; simp only; split <;> simp_all
            have HN := fun w => boxName_calls bx w (by omega)
            generalize nameFault bx = nf at *
            subst h0
            have HN := Lib.hid HN
            by_cases hz : r = 0
            · subst hz
              go_enter Tryd.func53, Tryd.ntmps53
              go_wp2_with (first | (go_at_call 52; first | (refine (in_yes _ _ _ _ (by omega) (by omega)).mono ?_; rintro e w' ⟨rfl, rfl⟩) | (refine (in_no _ _ _ _ (by omega)).mono ?_; rintro e w' ⟨rfl, rfl⟩)) | (go_at_call 50; refine (HN.out _).mono ?_; rintro e w1 ⟨rfl, rfl⟩))
              go_ret; exact ⟨(by first | rfl | (simp; done) | (simp [*]; done) | (rw [if_pos (by omega)]; first | rfl | (simp; done)) | (rw [if_neg (by omega)]; first | rfl | (simp; done)) | (simp; omega)), (by repeat (first | exact Below.refl _ _ | apply below_alloc | apply pw_below_drewN | apply below_drew1 | (refine Below.setCell ?_ (by first | (simp; done) | (simp; omega) | omega) _) ))⟩
            · have e1 : (r == 0) = false := by rw [beq_eq_false_iff_ne]; exact hz
              clear hz
              go_enter Tryd.func53, Tryd.ntmps53
              go_wp2_with (first | (go_at_call 52; first | (refine (in_yes _ _ _ _ (by omega) (by omega)).mono ?_; rintro e w' ⟨rfl, rfl⟩) | (refine (in_no _ _ _ _ (by omega)).mono ?_; rintro e w' ⟨rfl, rfl⟩)) | (go_at_call 50; refine (HN.out _).mono ?_; rintro e w1 ⟨rfl, rfl⟩))
              go_ret; exact ⟨(by first | rfl | (simp; done) | (simp [*]; done) | (rw [if_pos (by omega)]; first | rfl | (simp; done)) | (rw [if_neg (by omega)]; first | rfl | (simp; done)) | (simp; omega)), (by repeat (first | exact Below.refl _ _ | apply below_alloc | apply pw_below_drewN | apply below_drew1 | (refine Below.setCell ?_ (by first | (simp; done) | (simp; omega) | omega) _) ))⟩
        · have q_ : (f != 0) = true := by rw [bne_iff_ne]; exact hc
          obtain rfl := h3 (eqb_not (fun h => by simp_all)); clear h3 h6 h1 h0; go_enter Tryd.func53, Tryd.ntmps53; go_wp2_with (go_at_call 52; first | (refine (in_yes _ _ _ _ (by omega) (by omega)).mono ?_; rintro e w' ⟨rfl, rfl⟩) | (refine (in_no _ _ _ _ (by omega)).mono ?_; rintro e w' ⟨rfl, rfl⟩)); go_ret; exact ⟨(by first | rfl | (simp; done) | (simp [*]; done) | (rw [if_pos (by omega)]; first | rfl | (simp; done)) | (rw [if_neg (by omega)]; first | rfl | (simp; done)) | (simp; omega)), (by repeat (first | exact Below.refl _ _ | apply below_alloc | apply pw_below_drewN | apply below_drew1 | (refine Below.setCell ?_ (by first | (simp; done) | (simp; omega) | omega) _) ))⟩
      · have q_ : (u != 0) = true := by rw [bne_iff_ne]; exact hc
        obtain rfl := h3 (eqb_not (fun h => by simp_all)); clear h3 h6 h1 h0; go_enter Tryd.func53, Tryd.ntmps53; go_wp2_with (go_at_call 52; first | (refine (in_yes _ _ _ _ (by omega) (by omega)).mono ?_; rintro e w' ⟨rfl, rfl⟩) | (refine (in_no _ _ _ _ (by omega)).mono ?_; rintro e w' ⟨rfl, rfl⟩)); go_ret; exact ⟨(by first | rfl | (simp; done) | (simp [*]; done) | (rw [if_pos (by omega)]; first | rfl | (simp; done)) | (rw [if_neg (by omega)]; first | rfl | (simp; done)) | (simp; omega)), (by repeat (first | exact Below.refl _ _ | apply below_alloc | apply pw_below_drewN | apply below_drew1 | (refine Below.setCell ?_ (by first | (simp; done) | (simp; omega) | omega) _) ))⟩
    · have q_ := lit_no (l := []) hc
      obtain rfl := h3 (eqb_not (fun h => by simp_all)); clear h3 h6 h1 h0; go_enter Tryd.func53, Tryd.ntmps53; go_wp2_with (go_at_call 52; first | (refine (in_yes _ _ _ _ (by omega) (by omega)).mono ?_; rintro e w' ⟨rfl, rfl⟩) | (refine (in_no _ _ _ _ (by omega)).mono ?_; rintro e w' ⟨rfl, rfl⟩)); go_ret; exact ⟨(by first | rfl | (simp; done) | (simp [*]; done) | (rw [if_pos (by omega)]; first | rfl | (simp; done)) | (rw [if_neg (by omega)]; first | rfl | (simp; done)) | (simp; omega)), (by repeat (first | exact Below.refl _ _ | apply below_alloc | apply pw_below_drewN | apply below_drew1 | (refine Below.setCell ?_ (by first | (simp; done) | (simp; omega) | omega) _) ))⟩
  · have q_ := lit_no (l := []) hc
    obtain rfl := h3 (eqb_not (fun h => by simp_all)); clear h3 h6 h1 h0; go_enter Tryd.func53, Tryd.ntmps53; go_wp2_with (go_at_call 52; first | (refine (in_yes _ _ _ _ (by omega) (by omega)).mono ?_; rintro e w' ⟨rfl, rfl⟩) | (refine (in_no _ _ _ _ (by omega)).mono ?_; rintro e w' ⟨rfl, rfl⟩)); go_ret; exact ⟨(by first | rfl | (simp; done) | (simp [*]; done) | (rw [if_pos (by omega)]; first | rfl | (simp; done)) | (rw [if_neg (by omega)]; first | rfl | (simp; done)) | (simp; omega)), (by repeat (first | exact Below.refl _ _ | apply below_alloc | apply pw_below_drewN | apply below_drew1 | (refine Below.setCell ?_ (by first | (simp; done) | (simp; omega) | omega) _) ))⟩
set_option maxHeartbeats 8000000 in
set_option maxRecDepth 100000 in
theorem fault_5 (bx : ByteArray) (u f : Int) (to_ tx : ByteArray) (w : World) (hb : bx.size ≤ 1048576) (ht : to_.size ≤ 1048576) (hx : tx.size ≤ 1048576) :
    Calls Tryd.prog 53 #[.agg #[.int .i64 5, .string bx, .int .i64 u, .int .i64 f, .string to_, .string tx]] w fun e w' => e = .returned (.int .i64 (entryFault ⟨5, bx, u, f, to_, tx⟩)) ∧ Below w.heap.size w w' := by
  have hk : ¬ ((⟨5, bx, u, f, to_, tx⟩ : AEntry).kind < 1 ∨ 6 < (⟨5, bx, u, f, to_, tx⟩ : AEntry).kind) := by show ¬ ((5 : Int) < 1 ∨ 6 < (5 : Int)); omega
  have hbare : bareE ⟨5, bx, u, f, to_, tx⟩ = (⟨5, bx, u, 0, to_, ⟨#[]⟩⟩ : AEntry) := rfl
  have h3 := fun h => ef_form (x := ⟨5, bx, u, f, to_, tx⟩) hk h
  have h6 := fun h h2 => ef_range (x := ⟨5, bx, u, f, to_, tx⟩) hk h h2
  have h1 := fun h h2 h3 => ef_size (x := ⟨5, bx, u, f, to_, tx⟩) hk h h2 h3
  have h0 := fun h h2 h3 => ef_tail (x := ⟨5, bx, u, f, to_, tx⟩) hk h h2 h3
  rw [hbare] at h3 h6 h1 h0
  simp only at h6 h1 h0
  generalize entryFault ⟨5, bx, u, f, to_, tx⟩ = r at *
  clear hbare hk
  by_cases hc : tx = (⟨#[]⟩ : ByteArray)
  · subst hc
    by_cases hc : f = 0
    · subst hc
      have hq : eqbAEntry (⟨5, bx, u, 0, to_, ⟨#[]⟩⟩ : AEntry) (⟨5, bx, u, 0, to_, ⟨#[]⟩⟩ : AEntry) = true := eqbAEntry_self _
      replace h6 := h6 hq
      replace h1 := h1 hq
      replace h0 := h0 hq
      clear h3 hq
      rcases (by omega : (0 : Int) < 0 ∨ (0 ≤ (0 : Int) ∧ 31 < (0 : Int)) ∨ (0 ≤ (0 : Int) ∧ (0 : Int) ≤ 31 ∧ u < 0) ∨ (0 ≤ (0 : Int) ∧ (0 : Int) ≤ 31 ∧ 0 ≤ u ∧ 1048576 < u) ∨ (0 ≤ (0 : Int) ∧ (0 : Int) ≤ 31 ∧ 0 ≤ u ∧ u ≤ 1048576)) with g1 | ⟨g1, g2⟩ | ⟨g1, g2, g3⟩ | ⟨g1, g2, g3, g4⟩ | ⟨g1, g2, g3, g4⟩
      · first | (exfalso; omega) | (obtain rfl := h6 (by omega); clear h6 h1 h0; go_enter Tryd.func53, Tryd.ntmps53; go_wp2_with (go_at_call 52; first | (refine (in_yes _ _ _ _ (by omega) (by omega)).mono ?_; rintro e w' ⟨rfl, rfl⟩) | (refine (in_no _ _ _ _ (by omega)).mono ?_; rintro e w' ⟨rfl, rfl⟩)); go_ret; exact ⟨(by first | rfl | (simp; done) | (simp [*]; done) | (rw [if_pos (by omega)]; first | rfl | (simp; done)) | (rw [if_neg (by omega)]; first | rfl | (simp; done)) | (simp; omega)), (by repeat (first | exact Below.refl _ _ | apply below_alloc | apply pw_below_drewN | apply below_drew1 | (refine Below.setCell ?_ (by first | (simp; done) | (simp; omega) | omega) _) ))⟩)
      · first | (exfalso; omega) | (obtain rfl := h6 (by omega); clear h6 h1 h0; go_enter Tryd.func53, Tryd.ntmps53; go_wp2_with (go_at_call 52; first | (refine (in_yes _ _ _ _ (by omega) (by omega)).mono ?_; rintro e w' ⟨rfl, rfl⟩) | (refine (in_no _ _ _ _ (by omega)).mono ?_; rintro e w' ⟨rfl, rfl⟩)); go_ret; exact ⟨(by first | rfl | (simp; done) | (simp [*]; done) | (rw [if_pos (by omega)]; first | rfl | (simp; done)) | (rw [if_neg (by omega)]; first | rfl | (simp; done)) | (simp; omega)), (by repeat (first | exact Below.refl _ _ | apply below_alloc | apply pw_below_drewN | apply below_drew1 | (refine Below.setCell ?_ (by first | (simp; done) | (simp; omega) | omega) _) ))⟩)
      · first | (exfalso; omega) | (obtain rfl := h6 (by omega); clear h6 h1 h0; go_enter Tryd.func53, Tryd.ntmps53; go_wp2_with (go_at_call 52; first | (refine (in_yes _ _ _ _ (by omega) (by omega)).mono ?_; rintro e w' ⟨rfl, rfl⟩) | (refine (in_no _ _ _ _ (by omega)).mono ?_; rintro e w' ⟨rfl, rfl⟩)); go_ret; exact ⟨(by first | rfl | (simp; done) | (simp [*]; done) | (rw [if_pos (by omega)]; first | rfl | (simp; done)) | (rw [if_neg (by omega)]; first | rfl | (simp; done)) | (simp; omega)), (by repeat (first | exact Below.refl _ _ | apply below_alloc | apply pw_below_drewN | apply below_drew1 | (refine Below.setCell ?_ (by first | (simp; done) | (simp; omega) | omega) _) ))⟩)
      · first | (exfalso; omega) | (obtain rfl := h6 (by omega); clear h6 h1 h0; go_enter Tryd.func53, Tryd.ntmps53; go_wp2_with (go_at_call 52; first | (refine (in_yes _ _ _ _ (by omega) (by omega)).mono ?_; rintro e w' ⟨rfl, rfl⟩) | (refine (in_no _ _ _ _ (by omega)).mono ?_; rintro e w' ⟨rfl, rfl⟩)); go_ret; exact ⟨(by first | rfl | (simp; done) | (simp [*]; done) | (rw [if_pos (by omega)]; first | rfl | (simp; done)) | (rw [if_neg (by omega)]; first | rfl | (simp; done)) | (simp; omega)), (by repeat (first | exact Below.refl _ _ | apply below_alloc | apply pw_below_drewN | apply below_drew1 | (refine Below.setCell ?_ (by first | (simp; done) | (simp; omega) | omega) _) ))⟩)
      · replace h0 := h0 (by omega) (by decide)
        clear h6 h1
        replace h0 : r = if nameFault bx = 0 then nameFault to_ else nameFault bx := by rw [h0, if_neg (by omega), nameTail]; simp
        have HN := fun w => boxName_calls bx w (by omega)
        have HM := fun w => boxName_calls to_ w (by omega)
        generalize nameFault bx = nf at *
        generalize nameFault to_ = nt at *
        have HN := Lib.hid HN
        have HM := Lib.hid HM
        by_cases hz : nf = 0
        · subst hz
          rw [if_pos rfl] at h0
          subst h0
          go_enter Tryd.func53, Tryd.ntmps53
          go_wp2_with (go_at_call 52; first | (refine (in_yes _ _ _ _ (by omega) (by omega)).mono ?_; rintro e w' ⟨rfl, rfl⟩) | (refine (in_no _ _ _ _ (by omega)).mono ?_; rintro e w' ⟨rfl, rfl⟩))
          refine (HN.out _).mono ?_
          rintro e w1 ⟨rfl, rfl⟩
          go_wp2_with (go_at_call 52; first | (refine (in_yes _ _ _ _ (by omega) (by omega)).mono ?_; rintro e w' ⟨rfl, rfl⟩) | (refine (in_no _ _ _ _ (by omega)).mono ?_; rintro e w' ⟨rfl, rfl⟩))
          refine (HM.out _).mono ?_
          rintro e w1 ⟨rfl, rfl⟩
          go_wp2_with (go_at_call 52; first | (refine (in_yes _ _ _ _ (by omega) (by omega)).mono ?_; rintro e w' ⟨rfl, rfl⟩) | (refine (in_no _ _ _ _ (by omega)).mono ?_; rintro e w' ⟨rfl, rfl⟩))
          go_ret; exact ⟨(by first | rfl | (simp; done) | (simp [*]; done) | (rw [if_pos (by omega)]; first | rfl | (simp; done)) | (rw [if_neg (by omega)]; first | rfl | (simp; done)) | (simp; omega)), (by repeat (first | exact Below.refl _ _ | apply below_alloc | apply pw_below_drewN | apply below_drew1 | (refine Below.setCell ?_ (by first | (simp; done) | (simp; omega) | omega) _) ))⟩
        · rw [if_neg hz] at h0
          subst h0
          have e1 : (r == 0) = false := by rw [beq_eq_false_iff_ne]; exact hz
          clear hz
          go_enter Tryd.func53, Tryd.ntmps53
          go_wp2_with (first | (go_at_call 52; first | (refine (in_yes _ _ _ _ (by omega) (by omega)).mono ?_; rintro e w' ⟨rfl, rfl⟩) | (refine (in_no _ _ _ _ (by omega)).mono ?_; rintro e w' ⟨rfl, rfl⟩)) | (go_at_call 50; refine (HN.out _).mono ?_; rintro e w1 ⟨rfl, rfl⟩))
          go_ret; exact ⟨(by first | rfl | (simp; done) | (simp [*]; done) | (rw [if_pos (by omega)]; first | rfl | (simp; done)) | (rw [if_neg (by omega)]; first | rfl | (simp; done)) | (simp; omega)), (by repeat (first | exact Below.refl _ _ | apply below_alloc | apply pw_below_drewN | apply below_drew1 | (refine Below.setCell ?_ (by first | (simp; done) | (simp; omega) | omega) _) ))⟩
    · have q_ : (f != 0) = true := by rw [bne_iff_ne]; exact hc
      obtain rfl := h3 (eqb_not (fun h => by simp_all)); clear h3 h6 h1 h0; go_enter Tryd.func53, Tryd.ntmps53; go_wp2_with (go_at_call 52; first | (refine (in_yes _ _ _ _ (by omega) (by omega)).mono ?_; rintro e w' ⟨rfl, rfl⟩) | (refine (in_no _ _ _ _ (by omega)).mono ?_; rintro e w' ⟨rfl, rfl⟩)); go_ret; exact ⟨(by first | rfl | (simp; done) | (simp [*]; done) | (rw [if_pos (by omega)]; first | rfl | (simp; done)) | (rw [if_neg (by omega)]; first | rfl | (simp; done)) | (simp; omega)), (by repeat (first | exact Below.refl _ _ | apply below_alloc | apply pw_below_drewN | apply below_drew1 | (refine Below.setCell ?_ (by first | (simp; done) | (simp; omega) | omega) _) ))⟩
  · have q_ := lit_no (l := []) hc
    obtain rfl := h3 (eqb_not (fun h => by simp_all)); clear h3 h6 h1 h0; go_enter Tryd.func53, Tryd.ntmps53; go_wp2_with (go_at_call 52; first | (refine (in_yes _ _ _ _ (by omega) (by omega)).mono ?_; rintro e w' ⟨rfl, rfl⟩) | (refine (in_no _ _ _ _ (by omega)).mono ?_; rintro e w' ⟨rfl, rfl⟩)); go_ret; exact ⟨(by first | rfl | (simp; done) | (simp [*]; done) | (rw [if_pos (by omega)]; first | rfl | (simp; done)) | (rw [if_neg (by omega)]; first | rfl | (simp; done)) | (simp; omega)), (by repeat (first | exact Below.refl _ _ | apply below_alloc | apply pw_below_drewN | apply below_drew1 | (refine Below.setCell ?_ (by first | (simp; done) | (simp; omega) | omega) _) ))⟩
set_option maxHeartbeats 8000000 in
set_option maxRecDepth 100000 in
theorem fault_6 (bx : ByteArray) (u f : Int) (to_ tx : ByteArray) (w : World) (hb : bx.size ≤ 1048576) (ht : to_.size ≤ 1048576) (hx : tx.size ≤ 1048576) :
    Calls Tryd.prog 53 #[.agg #[.int .i64 6, .string bx, .int .i64 u, .int .i64 f, .string to_, .string tx]] w fun e w' => e = .returned (.int .i64 (entryFault ⟨6, bx, u, f, to_, tx⟩)) ∧ Below w.heap.size w w' := by
  have hk : ¬ ((⟨6, bx, u, f, to_, tx⟩ : AEntry).kind < 1 ∨ 6 < (⟨6, bx, u, f, to_, tx⟩ : AEntry).kind) := by show ¬ ((6 : Int) < 1 ∨ 6 < (6 : Int)); omega
  have hbare : bareE ⟨6, bx, u, f, to_, tx⟩ = (⟨6, ⟨#[]⟩, 0, 0, to_, tx⟩ : AEntry) := rfl
  have h3 := fun h => ef_form (x := ⟨6, bx, u, f, to_, tx⟩) hk h
  have h6 := fun h h2 => ef_range (x := ⟨6, bx, u, f, to_, tx⟩) hk h h2
  have h1 := fun h h2 h3 => ef_size (x := ⟨6, bx, u, f, to_, tx⟩) hk h h2 h3
  have h0 := fun h h2 h3 => ef_tail (x := ⟨6, bx, u, f, to_, tx⟩) hk h h2 h3
  rw [hbare] at h3 h6 h1 h0
  simp only at h6 h1 h0
  generalize entryFault ⟨6, bx, u, f, to_, tx⟩ = r at *
  clear hbare hk
  by_cases hc : bx = (⟨#[]⟩ : ByteArray)
  · subst hc
    by_cases hc : u = 0
    · subst hc
      by_cases hc : f = 0
      · subst hc
        have hq : eqbAEntry (⟨6, ⟨#[]⟩, 0, 0, to_, tx⟩ : AEntry) (⟨6, ⟨#[]⟩, 0, 0, to_, tx⟩ : AEntry) = true := eqbAEntry_self _
        replace h6 := h6 hq
        replace h1 := h1 hq
        replace h0 := h0 hq
        clear h3 hq
        rcases (by omega : (0 : Int) < 0 ∨ (0 ≤ (0 : Int) ∧ 31 < (0 : Int)) ∨ (0 ≤ (0 : Int) ∧ (0 : Int) ≤ 31 ∧ (0 : Int) < 0) ∨ (0 ≤ (0 : Int) ∧ (0 : Int) ≤ 31 ∧ 0 ≤ (0 : Int) ∧ 1048576 < (0 : Int)) ∨ (0 ≤ (0 : Int) ∧ (0 : Int) ≤ 31 ∧ 0 ≤ (0 : Int) ∧ (0 : Int) ≤ 1048576)) with g1 | ⟨g1, g2⟩ | ⟨g1, g2, g3⟩ | ⟨g1, g2, g3, g4⟩ | ⟨g1, g2, g3, g4⟩
        · first | (exfalso; omega) | (obtain rfl := h6 (by omega); clear h6 h1 h0; go_enter Tryd.func53, Tryd.ntmps53; go_wp2_with (go_at_call 52; first | (refine (in_yes _ _ _ _ (by omega) (by omega)).mono ?_; rintro e w' ⟨rfl, rfl⟩) | (refine (in_no _ _ _ _ (by omega)).mono ?_; rintro e w' ⟨rfl, rfl⟩)); go_ret; exact ⟨(by first | rfl | (simp; done) | (simp [*]; done) | (rw [if_pos (by omega)]; first | rfl | (simp; done)) | (rw [if_neg (by omega)]; first | rfl | (simp; done)) | (simp; omega)), (by repeat (first | exact Below.refl _ _ | apply below_alloc | apply pw_below_drewN | apply below_drew1 | (refine Below.setCell ?_ (by first | (simp; done) | (simp; omega) | omega) _) ))⟩)
        · first | (exfalso; omega) | (obtain rfl := h6 (by omega); clear h6 h1 h0; go_enter Tryd.func53, Tryd.ntmps53; go_wp2_with (go_at_call 52; first | (refine (in_yes _ _ _ _ (by omega) (by omega)).mono ?_; rintro e w' ⟨rfl, rfl⟩) | (refine (in_no _ _ _ _ (by omega)).mono ?_; rintro e w' ⟨rfl, rfl⟩)); go_ret; exact ⟨(by first | rfl | (simp; done) | (simp [*]; done) | (rw [if_pos (by omega)]; first | rfl | (simp; done)) | (rw [if_neg (by omega)]; first | rfl | (simp; done)) | (simp; omega)), (by repeat (first | exact Below.refl _ _ | apply below_alloc | apply pw_below_drewN | apply below_drew1 | (refine Below.setCell ?_ (by first | (simp; done) | (simp; omega) | omega) _) ))⟩)
        · first | (exfalso; omega) | (obtain rfl := h6 (by omega); clear h6 h1 h0; go_enter Tryd.func53, Tryd.ntmps53; go_wp2_with (go_at_call 52; first | (refine (in_yes _ _ _ _ (by omega) (by omega)).mono ?_; rintro e w' ⟨rfl, rfl⟩) | (refine (in_no _ _ _ _ (by omega)).mono ?_; rintro e w' ⟨rfl, rfl⟩)); go_ret; exact ⟨(by first | rfl | (simp; done) | (simp [*]; done) | (rw [if_pos (by omega)]; first | rfl | (simp; done)) | (rw [if_neg (by omega)]; first | rfl | (simp; done)) | (simp; omega)), (by repeat (first | exact Below.refl _ _ | apply below_alloc | apply pw_below_drewN | apply below_drew1 | (refine Below.setCell ?_ (by first | (simp; done) | (simp; omega) | omega) _) ))⟩)
        · first | (exfalso; omega) | (obtain rfl := h6 (by omega); clear h6 h1 h0; go_enter Tryd.func53, Tryd.ntmps53; go_wp2_with (go_at_call 52; first | (refine (in_yes _ _ _ _ (by omega) (by omega)).mono ?_; rintro e w' ⟨rfl, rfl⟩) | (refine (in_no _ _ _ _ (by omega)).mono ?_; rintro e w' ⟨rfl, rfl⟩)); go_ret; exact ⟨(by first | rfl | (simp; done) | (simp [*]; done) | (rw [if_pos (by omega)]; first | rfl | (simp; done)) | (rw [if_neg (by omega)]; first | rfl | (simp; done)) | (simp; omega)), (by repeat (first | exact Below.refl _ _ | apply below_alloc | apply pw_below_drewN | apply below_drew1 | (refine Below.setCell ?_ (by first | (simp; done) | (simp; omega) | omega) _) ))⟩)
        · by_cases g5 : 2000 < tx.size
          · first | (exfalso; simp at g5; done) | (obtain rfl := h1 (by omega) g5; clear h6 h1 h0; have g5' : (2000 : Int) < tx.size := (by omega); go_enter Tryd.func53, Tryd.ntmps53; go_wp2_with (go_at_call 52; first | (refine (in_yes _ _ _ _ (by omega) (by omega)).mono ?_; rintro e w' ⟨rfl, rfl⟩) | (refine (in_no _ _ _ _ (by omega)).mono ?_; rintro e w' ⟨rfl, rfl⟩)); go_ret; exact ⟨(by first | rfl | (simp; done) | (simp [*]; done) | (rw [if_pos (by omega)]; first | rfl | (simp; done)) | (rw [if_neg (by omega)]; first | rfl | (simp; done)) | (simp; omega)), (by repeat (first | exact Below.refl _ _ | apply below_alloc | apply pw_below_drewN | apply below_drew1 | (refine Below.setCell ?_ (by first | (simp; done) | (simp; omega) | omega) _) ))⟩)
          · replace h0 := h0 (by omega) (by first | exact g5 | omega)
            have g5' : ¬ (2000 : Int) < tx.size := by omega
            clear h6 h1
            rw [if_pos (by trivial)] at h0
            by_cases h100 : 100 < to_.size
            · rw [spool_long h100] at h0
              subst h0
              have h100' : (100 : Int) < to_.size := by omega
              go_enter Tryd.func53, Tryd.ntmps53
              go_wp2_with (go_at_call 52; first | (refine (in_yes _ _ _ _ (by omega) (by omega)).mono ?_; rintro e w' ⟨rfl, rfl⟩) | (refine (in_no _ _ _ _ (by omega)).mono ?_; rintro e w' ⟨rfl, rfl⟩))
              go_ret; exact ⟨(by first | rfl | (simp; done) | (simp [*]; done) | (rw [if_pos (by omega)]; first | rfl | (simp; done)) | (rw [if_neg (by omega)]; first | rfl | (simp; done)) | (simp; omega)), (by repeat (first | exact Below.refl _ _ | apply below_alloc | apply pw_below_drewN | apply below_drew1 | (refine Below.setCell ?_ (by first | (simp; done) | (simp; omega) | omega) _) ))⟩
            · have h100' : ¬ (100 : Int) < to_.size := by omega
              have HL := fun w => listOf_calls to_ w ht
              cases hl : listP okAddr to_ 0 with
              | none =>
                rw [spool_none hl] at h0
                rw [hl] at HL
                subst h0
                clear hl
                have HL := Lib.hid HL
                go_enter Tryd.func53, Tryd.ntmps53
                go_wp2_with (go_at_call 52; first | (refine (in_yes _ _ _ _ (by omega) (by omega)).mono ?_; rintro e w' ⟨rfl, rfl⟩) | (refine (in_no _ _ _ _ (by omega)).mono ?_; rintro e w' ⟨rfl, rfl⟩))
                refine (HL.out _).mono ?_
                intro e w1 hw1
                obtain ⟨rfl, hb1⟩ : _ ∧ _ := hw1
                go_wp2_with (go_at_call 52; first | (refine (in_yes _ _ _ _ (by omega) (by omega)).mono ?_; rintro e w' ⟨rfl, rfl⟩) | (refine (in_no _ _ _ _ (by omega)).mono ?_; rintro e w' ⟨rfl, rfl⟩))
                go_ret
                exact ⟨(by first | rfl | (simp; done) | (simp [*]; done) | (rw [if_pos (by omega)]; first | rfl | (simp; done)) | (rw [if_neg (by omega)]; first | rfl | (simp; done)) | (simp; omega)), (by repeat (first | exact Below.refl _ _ | apply below_alloc | apply pw_below_drewN | apply below_drew1 | (refine Below.setCell ?_ (by first | (simp; done) | (simp; omega) | omega) _) | (refine below_then ?_ (by first | (simp; done) | (simp; omega) | omega) hb1)))⟩
              | some l =>
                rw [spool_one (by omega) hl] at h0
                rw [hl] at HL
                clear hl
                have HL := Lib.hid HL
                by_cases h1 : l.length = 1
                · rw [if_pos h1] at h0
                  subst h0
                  have hl' : (l.length : Int) = 1 := by omega
                  go_enter Tryd.func53, Tryd.ntmps53
                  go_wp2_with (go_at_call 52; first | (refine (in_yes _ _ _ _ (by omega) (by omega)).mono ?_; rintro e w' ⟨rfl, rfl⟩) | (refine (in_no _ _ _ _ (by omega)).mono ?_; rintro e w' ⟨rfl, rfl⟩))
                  refine (HL.out _).mono ?_
                  intro e w1 hw1
                  obtain ⟨v, rfl, hR1, hb1⟩ : ∃ v, _ ∧ _ ∧ _ := hw1
                  obtain ⟨A1, c1, rfl⟩ := Kd.R_slice hR1
                  go_wp2_with (go_at_call 52; first | (refine (in_yes _ _ _ _ (by omega) (by omega)).mono ?_; rintro e w' ⟨rfl, rfl⟩) | (refine (in_no _ _ _ _ (by omega)).mono ?_; rintro e w' ⟨rfl, rfl⟩))
                  go_ret
                  exact ⟨(by first | rfl | (simp; done) | (simp [*]; done) | (rw [if_pos (by omega)]; first | rfl | (simp; done)) | (rw [if_neg (by omega)]; first | rfl | (simp; done)) | (simp; omega)), (by repeat (first | exact Below.refl _ _ | apply below_alloc | apply pw_below_drewN | apply below_drew1 | (refine Below.setCell ?_ (by first | (simp; done) | (simp; omega) | omega) _) | (refine below_then ?_ (by first | (simp; done) | (simp; omega) | omega) hb1)))⟩
                · rw [if_neg h1] at h0
                  subst h0
                  have hl' : ((l.length : Int) != 1) = true := by rw [bne_iff_ne]; omega
                  go_enter Tryd.func53, Tryd.ntmps53
                  go_wp2_with (go_at_call 52; first | (refine (in_yes _ _ _ _ (by omega) (by omega)).mono ?_; rintro e w' ⟨rfl, rfl⟩) | (refine (in_no _ _ _ _ (by omega)).mono ?_; rintro e w' ⟨rfl, rfl⟩))
                  refine (HL.out _).mono ?_
                  intro e w1 hw1
                  obtain ⟨v, rfl, hR1, hb1⟩ : ∃ v, _ ∧ _ ∧ _ := hw1
                  obtain ⟨A1, c1, rfl⟩ := Kd.R_slice hR1
                  go_wp2_with (go_at_call 52; first | (refine (in_yes _ _ _ _ (by omega) (by omega)).mono ?_; rintro e w' ⟨rfl, rfl⟩) | (refine (in_no _ _ _ _ (by omega)).mono ?_; rintro e w' ⟨rfl, rfl⟩))
                  go_ret
                  exact ⟨(by first | rfl | (simp; done) | (simp [*]; done) | (rw [if_pos (by omega)]; first | rfl | (simp; done)) | (rw [if_neg (by omega)]; first | rfl | (simp; done)) | (simp; omega)), (by repeat (first | exact Below.refl _ _ | apply below_alloc | apply pw_below_drewN | apply below_drew1 | (refine Below.setCell ?_ (by first | (simp; done) | (simp; omega) | omega) _) | (refine below_then ?_ (by first | (simp; done) | (simp; omega) | omega) hb1)))⟩
      · have q_ : (f != 0) = true := by rw [bne_iff_ne]; exact hc
        obtain rfl := h3 (eqb_not (fun h => by simp_all)); clear h3 h6 h1 h0; go_enter Tryd.func53, Tryd.ntmps53; go_wp2_with (go_at_call 52; first | (refine (in_yes _ _ _ _ (by omega) (by omega)).mono ?_; rintro e w' ⟨rfl, rfl⟩) | (refine (in_no _ _ _ _ (by omega)).mono ?_; rintro e w' ⟨rfl, rfl⟩)); go_ret; exact ⟨(by first | rfl | (simp; done) | (simp [*]; done) | (rw [if_pos (by omega)]; first | rfl | (simp; done)) | (rw [if_neg (by omega)]; first | rfl | (simp; done)) | (simp; omega)), (by repeat (first | exact Below.refl _ _ | apply below_alloc | apply pw_below_drewN | apply below_drew1 | (refine Below.setCell ?_ (by first | (simp; done) | (simp; omega) | omega) _) ))⟩
    · have q_ : (u != 0) = true := by rw [bne_iff_ne]; exact hc
      obtain rfl := h3 (eqb_not (fun h => by simp_all)); clear h3 h6 h1 h0; go_enter Tryd.func53, Tryd.ntmps53; go_wp2_with (go_at_call 52; first | (refine (in_yes _ _ _ _ (by omega) (by omega)).mono ?_; rintro e w' ⟨rfl, rfl⟩) | (refine (in_no _ _ _ _ (by omega)).mono ?_; rintro e w' ⟨rfl, rfl⟩)); go_ret; exact ⟨(by first | rfl | (simp; done) | (simp [*]; done) | (rw [if_pos (by omega)]; first | rfl | (simp; done)) | (rw [if_neg (by omega)]; first | rfl | (simp; done)) | (simp; omega)), (by repeat (first | exact Below.refl _ _ | apply below_alloc | apply pw_below_drewN | apply below_drew1 | (refine Below.setCell ?_ (by first | (simp; done) | (simp; omega) | omega) _) ))⟩
  · have q_ := lit_no (l := []) hc
    obtain rfl := h3 (eqb_not (fun h => by simp_all)); clear h3 h6 h1 h0; go_enter Tryd.func53, Tryd.ntmps53; go_wp2_with (go_at_call 52; first | (refine (in_yes _ _ _ _ (by omega) (by omega)).mono ?_; rintro e w' ⟨rfl, rfl⟩) | (refine (in_no _ _ _ _ (by omega)).mono ?_; rintro e w' ⟨rfl, rfl⟩)); go_ret; exact ⟨(by first | rfl | (simp; done) | (simp [*]; done) | (rw [if_pos (by omega)]; first | rfl | (simp; done)) | (rw [if_neg (by omega)]; first | rfl | (simp; done)) | (simp; omega)), (by repeat (first | exact Below.refl _ _ | apply below_alloc | apply pw_below_drewN | apply below_drew1 | (refine Below.setCell ?_ (by first | (simp; done) | (simp; omega) | omega) _) ))⟩
set_option maxHeartbeats 1000000 in
set_option maxRecDepth 100000 in
theorem fault_else (k : Int) (bx : ByteArray) (u f : Int) (to_ tx : ByteArray) (w : World) (hk : k < 1 ∨ 6 < k) :
    Calls Tryd.prog 53 #[.agg #[.int .i64 k, .string bx, .int .i64 u, .int .i64 f, .string to_, .string tx]] w fun e w' => e = .returned (.int .i64 (entryFault ⟨k, bx, u, f, to_, tx⟩)) ∧ Below w.heap.size w w' := by
  rw [ef_kind (x := ⟨k, bx, u, f, to_, tx⟩) hk]
  go_enter Tryd.func53, Tryd.ntmps53
  go_wp2_with (go_at_call 52; first | (refine (in_yes _ _ _ _ (by omega) (by omega)).mono ?_; rintro e w' ⟨rfl, rfl⟩) | (refine (in_no _ _ _ _ (by omega)).mono ?_; rintro e w' ⟨rfl, rfl⟩))
  go_ret
  exact ⟨(by first | rfl | (simp; done) | (simp [*]; done) | (rw [if_pos (by omega)]; first | rfl | (simp; done)) | (rw [if_neg (by omega)]; first | rfl | (simp; done)) | (simp; omega)), (by repeat (first | exact Below.refl _ _ | apply below_alloc | apply pw_below_drewN | apply below_drew1 | (refine Below.setCell ?_ (by first | (simp; done) | (simp; omega) | omega) _) ))⟩
theorem entryFault_calls (x : AEntry) (w : World) (hb : x.box.size ≤ 1048576) (ht : x.to_.size ≤ 1048576) (hx : x.text.size ≤ 1048576) :
    Calls Tryd.prog 53 #[.agg #[.int .i64 x.kind, .string x.box, .int .i64 x.uid, .int .i64 x.flags, .string x.to_, .string x.text]] w fun e w' => e = .returned (.int .i64 (entryFault x)) ∧ Below w.heap.size w w' := by
  obtain ⟨k, bx, u, f, to_, tx⟩ := x
  rcases (by omega : (k < 1 ∨ 6 < k) ∨ k = 1 ∨ k = 2 ∨ k = 3 ∨ k = 4 ∨ k = 5 ∨ k = 6) with h | rfl | rfl | rfl | rfl | rfl | rfl
  · exact fault_else k bx u f to_ tx w h
  · exact fault_1 bx u f to_ tx w hb ht hx
  · exact fault_2 bx u f to_ tx w hb ht hx
  · exact fault_3 bx u f to_ tx w hb ht hx
  · exact fault_4 bx u f to_ tx w hb ht hx
  · exact fault_5 bx u f to_ tx w hb ht hx
  · exact fault_6 bx u f to_ tx w hb ht hx
end Go.Proofs.YtijdghplfhfpaaaDoor.H
