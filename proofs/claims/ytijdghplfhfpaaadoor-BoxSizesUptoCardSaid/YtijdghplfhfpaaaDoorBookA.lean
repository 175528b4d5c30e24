/- Batches: the walks of batch, book.Check and the reference's BatchFault. -/
import Derived.Test.YtijdghplfhfpaaaDoorBoxC
import Derived.Test.YtijdghplfhfpaaaDoorBlk
import Derived.Deep.QuietTactic
import Derived.Deep.RegionHeld3
import Derived.BigQuiet
namespace Go.Proofs.YtijdghplfhfpaaaDoor.H
open Go.RowKit Go.Proofs.YtijdghplfhfpaaaDoorW.PrintWords Go.Proofs.YtijdghplfhfpaaaDoorW.PrintLast Go.Proofs.YtijdghplfhfpaaaDoorW.PrintMore Go.Proofs.YtijdghplfhfpaaaDoor.U
set_option linter.unusedVariables false
set_option linter.unusedSimpArgs false
theorem rowAEntry : RowT Tryd.prog kAEntry 23 40 72 (.agg #[.int .i64 0, .string ⟨#[]⟩, .int .i64 0, .int .i64 0, .string ⟨#[]⟩, .string ⟨#[]⟩]) :=
  ⟨Tryd.underlying23, by kernel_rfl, rfl, by decide, by decide, flat_kd⟩
set_option maxHeartbeats 1000000 in
set_option maxRecDepth 100000 in
theorem entries_calls (A : Option Addr) (c : Nat) (l : List AEntry) (w : World) (hr : Kd.C kAEntry w A l.length l) (hl : l.length * 72 ≤ 140737488355328) :
    Calls Tryd.prog 18 #[.slice A l.length c] w fun e w' => ∃ A1 c1, e = .returned (.slice A1 l.length c1) ∧ Kd.R kAEntry 40 w' w.heap.size (fun _ => True) (.slice A1 l.length c1) l ∧ Below w.heap.size w w' := by
  go_enter Tryd.func18, Tryd.ntmps18
  go_wp2_with (at_builtin; refine clone_list rowAEntry rfl _ _ rfl l A c rfl rfl hr hl ?_; intro A1 c1 w1 hR hb1)
  go_ret
  exact ⟨A1, c1, rfl, hR, hb1⟩
def firstFault : List AEntry → Int
  | [] => 0
  | x :: l => if entryFault x = 0 then firstFault l else entryFault x
def batchFault (u : Int) (l : List AEntry) : Int := if u < 0 ∨ 2 < u then 6 else if l.length < 1 ∨ 10 < l.length then 1 else firstFault l
theorem first_good {l : List AEntry} {k : Nat} (h : k < l.length) (h2 : entryFault l[k] = 0) : firstFault (l.drop k) = firstFault (l.drop (k + 1)) := by
  rw [List.drop_eq_getElem_cons h, firstFault, if_pos h2]
theorem first_bad {l : List AEntry} {k : Nat} (h : k < l.length) (h2 : ¬ entryFault l[k] = 0) : firstFault (l.drop k) = entryFault l[k] := by
  rw [List.drop_eq_getElem_cons h, firstFault, if_neg h2]
theorem first_end (l : List AEntry) : firstFault (l.drop l.length) = 0 := by rw [List.drop_length]; rfl
def okE (x : AEntry) : Prop := x.box.size ≤ 1048576 ∧ x.to_.size ≤ 1048576 ∧ x.text.size ≤ 1048576
set_option maxHeartbeats 1000000 in
set_option maxRecDepth 100000 in
theorem bookCheck_calls (u : Int) (A : Option Addr) (c : Nat) (l : List AEntry) (m : Int) (w : World) (hr : Kd.C kAEntry w A l.length l) (hs : ∀ x ∈ l, okE x) (hm : w.cell? ⟨6, 0, none⟩ = some (.int .i64 m)) (hg : 6 < w.heap.size) :
    Calls Tryd.prog 59 #[.agg #[.int .i64 u, .slice A l.length c]] w fun e w' => e = .returned (.int .i64 (batchFault u l)) ∧ Below w.heap.size w w' := by
  have h63 := hr.2.1
  by_cases hu : u < 0 ∨ 2 < u
  · rw [batchFault, if_pos hu]
    rcases hu with h | h
    · have u1 : u < 0 := h
      go_enter Tryd.func59, Tryd.ntmps59
      go_wp2_with (fail)
      go_ret
      exact ⟨(by first | rfl | (simp; done) | (simp [*]; done) | (rw [if_pos (by omega)]; first | rfl | (simp; done)) | (rw [if_neg (by omega)]; first | rfl | (simp; done)) | (simp; omega)), (by repeat (first | exact Below.refl _ _ | apply below_alloc | apply pw_below_drewN | apply below_drew1 | (refine Below.setCell ?_ (by first | (simp; done) | (simp; omega) | omega) _) ))⟩
    · have u1 : ¬ u < 0 := by omega
      have u2 : 3 ≤ u := by omega
      go_enter Tryd.func59, Tryd.ntmps59
      go_wp2_with (fail)
      go_ret
      exact ⟨(by first | rfl | (simp; done) | (simp [*]; done) | (rw [if_pos (by omega)]; first | rfl | (simp; done)) | (rw [if_neg (by omega)]; first | rfl | (simp; done)) | (simp; omega)), (by repeat (first | exact Below.refl _ _ | apply below_alloc | apply pw_below_drewN | apply below_drew1 | (refine Below.setCell ?_ (by first | (simp; done) | (simp; omega) | omega) _) ))⟩
  · have u1 : ¬ u < 0 := by omega
    have u2 : ¬ 3 ≤ u := by omega
    have u3 : 0 ≤ u := by omega
    have u4 : u ≤ 2 := by omega
    by_cases hl : l.length < 1 ∨ 10 < l.length
    · rw [batchFault, if_neg hu, if_pos hl]
      rcases hl with h | h
      · have l1 : (l.length : Int) < 1 := by omega
        go_enter Tryd.func59, Tryd.ntmps59
        go_wp2_with (fail)
        go_ret
        exact ⟨(by first | rfl | (simp; done) | (simp [*]; done) | (rw [if_pos (by omega)]; first | rfl | (simp; done)) | (rw [if_neg (by omega)]; first | rfl | (simp; done)) | (simp; omega)), (by repeat (first | exact Below.refl _ _ | apply below_alloc | apply pw_below_drewN | apply below_drew1 | (refine Below.setCell ?_ (by first | (simp; done) | (simp; omega) | omega) _) ))⟩
      · have l1 : ¬ (l.length : Int) < 1 := by omega
        have l2 : (10 : Int) < (l.length : Int) := by omega
        go_enter Tryd.func59, Tryd.ntmps59
        go_wp2_with (fail)
        go_ret
        exact ⟨(by first | rfl | (simp; done) | (simp [*]; done) | (rw [if_pos (by omega)]; first | rfl | (simp; done)) | (rw [if_neg (by omega)]; first | rfl | (simp; done)) | (simp; omega)), (by repeat (first | exact Below.refl _ _ | apply below_alloc | apply pw_below_drewN | apply below_drew1 | (refine Below.setCell ?_ (by first | (simp; done) | (simp; omega) | omega) _) ))⟩
    · rw [batchFault, if_neg hu, if_neg hl]
      have l1 : ¬ (l.length : Int) < 1 := by omega
      have l2 : ¬ (10 : Int) < (l.length : Int) := by omega
      have l3 : (1 : Int) ≤ (l.length : Int) := by omega
      have l4 : (l.length : Int) ≤ 10 := by omega
      clear hu hl
      generalize hR : firstFault l = R
      go_enter Tryd.func59, Tryd.ntmps59
      go_wp2_with (fail)
      go_loopw [27] (fun v wr => ∃ k : Nat, k ≤ l.length ∧ v = .int .i64 k ∧ firstFault (l.drop k) = R ∧ Blk wr w.heap.size [.int .i64 u, .slice A l.length c] ∧ Below w.heap.size w wr) (fun v _ => l.length - (intOf v).toNat)
      case atStart => exact ⟨0, Nat.zero_le _, rfl, hR, Blk.made w #[.int .i64 u, .slice A l.length c] _, (by repeat (first | exact Below.refl _ _ | apply below_alloc | apply pw_below_drewN | apply below_drew1 | (refine Below.setCell ?_ (by first | (simp; done) | (simp; omega) | omega) _) ))⟩
      case round =>
        clear hR
        obtain ⟨k, hk, rfl, hR, hblk, hB⟩ := hrel
        have hz := hblk.lt
        have m1 := hblk.at 1 _ rfl
        by_cases hlt : k < l.length
        · obtain ⟨ad, e1, hx0, hxj⟩ := flat_at (Kd.C_below hr hB) k hlt
          subst e1
          have q0 := hx0 _ rfl; have q1 := hxj 1 _ (by decide) rfl; have q2 := hxj 2 _ (by decide) rfl; have q3 := hxj 3 _ (by decide) rfl; have q4 := hxj 4 _ (by decide) rfl; have q5 := hxj 5 _ (by decide) rfl
          clear hx0 hxj
          have hg1 := fun h => first_good hlt h
          have hb1 := fun h => first_bad hlt h
          rw [hR] at hg1 hb1
          obtain ⟨s1, s2, s3⟩ := hs _ (List.getElem_mem hlt)
          have i0 : (0 : Int) ≤ (k : Int) := by omega
          have i1 : (k : Int) < (l.length : Int) := by omega
          generalize l[k] = x at *
          have HF := fun w hm hg => form_calls x m w s1 s2 s3 hm hg
          by_cases hf : entryFault x = 0
          · have hn := hg1 hf
            rw [hf] at HF
            have HF := Lib.hid HF
            have hn := Lib.hid hn
            clear hg1 hb1 hf hR
            go_wp2_with (fail)
            refine (HF.out _ (cell_below (B := wr.heap.size) (by repeat (first | exact Below.refl _ _ | apply below_alloc | apply pw_below_drewN | apply below_drew1 | (refine Below.setCell ?_ (by first | (simp; done) | (simp; omega) | omega) _) )) (cell_below hB hm hg) (by omega)) (by first | (simp; done) | (simp; omega) | omega)).mono ?_
            rintro e w2 ⟨rfl, hc2⟩
            have hb2 : Below wr.heap.size wr w2 := (by repeat (first | exact Below.refl _ _ | apply below_alloc | apply pw_below_drewN | apply below_drew1 | (refine Below.setCell ?_ (by first | (simp; done) | (simp; omega) | omega) _) | (refine below_then ?_ (by first | (simp; done) | (simp; omega) | omega) hc2)))
            have hblk2 := hblk.below hb2 hz
            have hB2 := hB.trans (hb2.mono (by omega))
            clear hc2 hb2 hblk
            go_wp2_with fail
            go_roundw
            case rel => exact ⟨k + 1, hlt, by go_num, hn.out.symm, hblk2, hB2⟩
            case measure => simp [intOf]; omega
          · have hn := hb1 hf
            generalize entryFault x = f at *
            have hfb : (f != 0) = true := by simp [hf]
            subst hn
            have HF := Lib.hid HF
            clear hg1 hb1 hf hR
            go_wp2_with (fail)
            refine (HF.out _ (cell_below (B := wr.heap.size) (by repeat (first | exact Below.refl _ _ | apply below_alloc | apply pw_below_drewN | apply below_drew1 | (refine Below.setCell ?_ (by first | (simp; done) | (simp; omega) | omega) _) )) (cell_below hB hm hg) (by omega)) (by first | (simp; done) | (simp; omega) | omega)).mono ?_
            rintro e w2 ⟨rfl, hc2⟩
            have hb2 : Below wr.heap.size wr w2 := (by repeat (first | exact Below.refl _ _ | apply below_alloc | apply pw_below_drewN | apply below_drew1 | (refine Below.setCell ?_ (by first | (simp; done) | (simp; omega) | omega) _) | (refine below_then ?_ (by first | (simp; done) | (simp; omega) | omega) hc2)))
            have hblk2 := hblk.below hb2 hz
            have hB2 := hB.trans (hb2.mono (by omega))
            clear hc2 hb2 hblk
            go_wp2_with fail
            go_ret
            exact ⟨(by first | rfl | (simp; done) | (simp [*]; done) | (rw [if_pos (by omega)]; first | rfl | (simp; done)) | (rw [if_neg (by omega)]; first | rfl | (simp; done)) | (simp; omega)), (by repeat (first | exact Below.refl _ _ | apply below_alloc | apply pw_below_drewN | apply below_drew1 | (refine Below.setCell ?_ (by first | (simp; done) | (simp; omega) | omega) _) | exact hB2))⟩
        · obtain rfl : k = l.length := by omega
          rw [first_end] at hR
          subst hR
          have i1 : ¬ (l.length : Int) < (l.length : Int) := by omega
          go_wp2_with (fail)
          go_ret
          exact ⟨(by first | rfl | (simp; done) | (simp [*]; done) | (rw [if_pos (by omega)]; first | rfl | (simp; done)) | (rw [if_neg (by omega)]; first | rfl | (simp; done)) | (simp; omega)), (by repeat (first | exact Below.refl _ _ | apply below_alloc | apply pw_below_drewN | apply below_drew1 | (refine Below.setCell ?_ (by first | (simp; done) | (simp; omega) | omega) _) | exact hB))⟩
set_option maxHeartbeats 1000000 in
set_option maxRecDepth 100000 in
theorem batchFault_calls (u : Int) (A : Option Addr) (c : Nat) (l : List AEntry)  (w : World) (hr : Kd.C kAEntry w A l.length l) (hs : ∀ x ∈ l, okE x)  :
    Calls Tryd.prog 60 #[.agg #[.int .i64 u, .slice A l.length c]] w fun e w' => e = .returned (.int .i64 (batchFault u l)) ∧ Below w.heap.size w w' := by
  have h63 := hr.2.1
  by_cases hu : u < 0 ∨ 2 < u
  · rw [batchFault, if_pos hu]
    rcases hu with h | h
    · have u1 : u < 0 := h
      go_enter Tryd.func60, Tryd.ntmps60
      go_wp2_with ((go_at_call 52; first | (refine (in_yes _ _ _ _ (by omega) (by omega)).mono ?_; rintro e w' ⟨rfl, rfl⟩) | (refine (in_no _ _ _ _ (by omega)).mono ?_; rintro e w' ⟨rfl, rfl⟩)))
      go_ret
      exact ⟨(by first | rfl | (simp; done) | (simp [*]; done) | (rw [if_pos (by omega)]; first | rfl | (simp; done)) | (rw [if_neg (by omega)]; first | rfl | (simp; done)) | (simp; omega)), (by repeat (first | exact Below.refl _ _ | apply below_alloc | apply pw_below_drewN | apply below_drew1 | (refine Below.setCell ?_ (by first | (simp; done) | (simp; omega) | omega) _) ))⟩
    · have u1 : ¬ u < 0 := by omega
      have u2 : 3 ≤ u := by omega
      go_enter Tryd.func60, Tryd.ntmps60
      go_wp2_with ((go_at_call 52; first | (refine (in_yes _ _ _ _ (by omega) (by omega)).mono ?_; rintro e w' ⟨rfl, rfl⟩) | (refine (in_no _ _ _ _ (by omega)).mono ?_; rintro e w' ⟨rfl, rfl⟩)))
      go_ret
      exact ⟨(by first | rfl | (simp; done) | (simp [*]; done) | (rw [if_pos (by omega)]; first | rfl | (simp; done)) | (rw [if_neg (by omega)]; first | rfl | (simp; done)) | (simp; omega)), (by repeat (first | exact Below.refl _ _ | apply below_alloc | apply pw_below_drewN | apply below_drew1 | (refine Below.setCell ?_ (by first | (simp; done) | (simp; omega) | omega) _) ))⟩
  · have u1 : ¬ u < 0 := by omega
    have u2 : ¬ 3 ≤ u := by omega
    have u3 : 0 ≤ u := by omega
    have u4 : u ≤ 2 := by omega
    by_cases hl : l.length < 1 ∨ 10 < l.length
    · rw [batchFault, if_neg hu, if_pos hl]
      rcases hl with h | h
      · have l1 : (l.length : Int) < 1 := by omega
        go_enter Tryd.func60, Tryd.ntmps60
        go_wp2_with ((go_at_call 52; first | (refine (in_yes _ _ _ _ (by omega) (by omega)).mono ?_; rintro e w' ⟨rfl, rfl⟩) | (refine (in_no _ _ _ _ (by omega)).mono ?_; rintro e w' ⟨rfl, rfl⟩)))
        go_ret
        exact ⟨(by first | rfl | (simp; done) | (simp [*]; done) | (rw [if_pos (by omega)]; first | rfl | (simp; done)) | (rw [if_neg (by omega)]; first | rfl | (simp; done)) | (simp; omega)), (by repeat (first | exact Below.refl _ _ | apply below_alloc | apply pw_below_drewN | apply below_drew1 | (refine Below.setCell ?_ (by first | (simp; done) | (simp; omega) | omega) _) ))⟩
      · have l1 : ¬ (l.length : Int) < 1 := by omega
        have l2 : (10 : Int) < (l.length : Int) := by omega
        go_enter Tryd.func60, Tryd.ntmps60
        go_wp2_with ((go_at_call 52; first | (refine (in_yes _ _ _ _ (by omega) (by omega)).mono ?_; rintro e w' ⟨rfl, rfl⟩) | (refine (in_no _ _ _ _ (by omega)).mono ?_; rintro e w' ⟨rfl, rfl⟩)))
        go_ret
        exact ⟨(by first | rfl | (simp; done) | (simp [*]; done) | (rw [if_pos (by omega)]; first | rfl | (simp; done)) | (rw [if_neg (by omega)]; first | rfl | (simp; done)) | (simp; omega)), (by repeat (first | exact Below.refl _ _ | apply below_alloc | apply pw_below_drewN | apply below_drew1 | (refine Below.setCell ?_ (by first | (simp; done) | (simp; omega) | omega) _) ))⟩
    · rw [batchFault, if_neg hu, if_neg hl]
      have l1 : ¬ (l.length : Int) < 1 := by omega
      have l2 : ¬ (10 : Int) < (l.length : Int) := by omega
      have l3 : (1 : Int) ≤ (l.length : Int) := by omega
      have l4 : (l.length : Int) ≤ 10 := by omega
      clear hu hl
      generalize hR : firstFault l = R
      go_enter Tryd.func60, Tryd.ntmps60
      go_wp2_with ((go_at_call 52; first | (refine (in_yes _ _ _ _ (by omega) (by omega)).mono ?_; rintro e w' ⟨rfl, rfl⟩) | (refine (in_no _ _ _ _ (by omega)).mono ?_; rintro e w' ⟨rfl, rfl⟩)))
      go_loopw [3] (fun v wr => ∃ k : Nat, k ≤ l.length ∧ v = .int .i64 k ∧ firstFault (l.drop k) = R ∧ Blk wr w.heap.size [.int .i64 u, .slice A l.length c] ∧ Below w.heap.size w wr) (fun v _ => l.length - (intOf v).toNat)
      case atStart => exact ⟨0, Nat.zero_le _, rfl, hR, Blk.made w #[.int .i64 u, .slice A l.length c] _, (by repeat (first | exact Below.refl _ _ | apply below_alloc | apply pw_below_drewN | apply below_drew1 | (refine Below.setCell ?_ (by first | (simp; done) | (simp; omega) | omega) _) ))⟩
      case round =>
        clear hR
        obtain ⟨k, hk, rfl, hR, hblk, hB⟩ := hrel
        have hz := hblk.lt
        have m1 := hblk.at 1 _ rfl
        by_cases hlt : k < l.length
        · obtain ⟨ad, e1, hx0, hxj⟩ := flat_at (Kd.C_below hr hB) k hlt
          subst e1
          have q0 := hx0 _ rfl; have q1 := hxj 1 _ (by decide) rfl; have q2 := hxj 2 _ (by decide) rfl; have q3 := hxj 3 _ (by decide) rfl; have q4 := hxj 4 _ (by decide) rfl; have q5 := hxj 5 _ (by decide) rfl
          clear hx0 hxj
          have hg1 := fun h => first_good hlt h
          have hb1 := fun h => first_bad hlt h
          rw [hR] at hg1 hb1
          obtain ⟨s1, s2, s3⟩ := hs _ (List.getElem_mem hlt)
          have i0 : (0 : Int) ≤ (k : Int) := by omega
          have i1 : (k : Int) < (l.length : Int) := by omega
          generalize l[k] = x at *
          have HF := fun w => entryFault_calls x w s1 s2 s3
          by_cases hf : entryFault x = 0
          · have hn := hg1 hf
            rw [hf] at HF
            have HF := Lib.hid HF
            have hn := Lib.hid hn
            clear hg1 hb1 hf hR
            go_wp2_with ((go_at_call 52; first | (refine (in_yes _ _ _ _ (by omega) (by omega)).mono ?_; rintro e w' ⟨rfl, rfl⟩) | (refine (in_no _ _ _ _ (by omega)).mono ?_; rintro e w' ⟨rfl, rfl⟩)))
            refine (HF.out _).mono ?_
            rintro e w2 ⟨rfl, hb2⟩
            have hblk2 := hblk.below hb2 hz
            have hB2 := hB.trans (hb2.mono (by omega))
            clear hb2 hblk
            go_wp2_with fail
            go_roundw
            case rel => exact ⟨k + 1, hlt, by go_num, hn.out.symm, hblk2, hB2⟩
            case measure => simp [intOf]; omega
          · have hn := hb1 hf
            generalize entryFault x = f at *
            have hfb : (f != 0) = true := by simp [hf]
            subst hn
            have HF := Lib.hid HF
            clear hg1 hb1 hf hR
            go_wp2_with ((go_at_call 52; first | (refine (in_yes _ _ _ _ (by omega) (by omega)).mono ?_; rintro e w' ⟨rfl, rfl⟩) | (refine (in_no _ _ _ _ (by omega)).mono ?_; rintro e w' ⟨rfl, rfl⟩)))
            refine (HF.out _).mono ?_
            rintro e w2 ⟨rfl, hb2⟩
            have hblk2 := hblk.below hb2 hz
            have hB2 := hB.trans (hb2.mono (by omega))
            clear hb2 hblk
            go_wp2_with fail
            go_ret
            exact ⟨(by first | rfl | (simp; done) | (simp [*]; done) | (rw [if_pos (by omega)]; first | rfl | (simp; done)) | (rw [if_neg (by omega)]; first | rfl | (simp; done)) | (simp; omega)), (by repeat (first | exact Below.refl _ _ | apply below_alloc | apply pw_below_drewN | apply below_drew1 | (refine Below.setCell ?_ (by first | (simp; done) | (simp; omega) | omega) _) | exact hB2))⟩
        · obtain rfl : k = l.length := by omega
          rw [first_end] at hR
          subst hR
          have i1 : ¬ (l.length : Int) < (l.length : Int) := by omega
          go_wp2_with ((go_at_call 52; first | (refine (in_yes _ _ _ _ (by omega) (by omega)).mono ?_; rintro e w' ⟨rfl, rfl⟩) | (refine (in_no _ _ _ _ (by omega)).mono ?_; rintro e w' ⟨rfl, rfl⟩)))
          go_ret
          exact ⟨(by first | rfl | (simp; done) | (simp [*]; done) | (rw [if_pos (by omega)]; first | rfl | (simp; done)) | (rw [if_neg (by omega)]; first | rfl | (simp; done)) | (simp; omega)), (by repeat (first | exact Below.refl _ _ | apply below_alloc | apply pw_below_drewN | apply below_drew1 | (refine Below.setCell ?_ (by first | (simp; done) | (simp; omega) | omega) _) | exact hB))⟩
set_option maxHeartbeats 1000000 in
set_option maxRecDepth 100000 in
theorem batch_calls (u : Int) (A : Option Addr) (c : Nat) (l : List AEntry) (w : World) (hr : Kd.C kAEntry w A l.length l) (hl : l.length * 72 ≤ 140737488355328) :
    Calls Tryd.prog 58 #[.agg #[.int .i64 u, .slice A l.length c]] w fun e w' => ∃ A1 c1, e = .returned (.agg #[.int .i64 u, .slice A1 l.length c1]) ∧ Kd.R kAEntry 40 w' w.heap.size (fun _ => True) (.slice A1 l.length c1) l ∧ Below w.heap.size w w' := by
  have HE := Lib.hid (fun w hr => entries_calls A c l w hr hl)
  go_enter Tryd.func58, Tryd.ntmps58
  go_wp2_with fail
  go_region_held3 (fun w' => w'.cell? ⟨w.heap.size, 0, none⟩ = some (.int .i64 u) ∧ w'.cell? ⟨w.heap.size, 1, none⟩ = some (.slice A l.length c))
    (first | go_keep | (refine ⟨?_, ?_⟩ <;> (rw [hc _ _ (by simp; omega)]; simp)))
    ((go_at_call 18; refine (HE.out _ (Kd.C_below hr (by repeat (first | exact Below.refl _ _ | apply below_alloc | apply pw_below_drewN | apply below_drew1)))).mono ?_; rintro e w1 ⟨A1, c1, rfl, hR, hb1⟩; obtain ⟨hc, hf⟩ := bcell hb1))
  go_wp2
  have hz := hb1.size
  simp at hz
  refine bodyPost_ret (v := .agg #[.int .i64 u, .slice A1 l.length c1]) (by simp [results, Tryd.results58, go_sem, hc]) rfl ⟨_, _, rfl, ?_, ?_⟩
  · exact Kd.R_lower (R_elder (R_elder hR (by simp) _) (by simp) _) (by simp; omega)
  · exact ((((((Below.refl w.heap.size w).alloc (Nat.le_refl _) _).alloc (by simp) _).drew).trans (hb1.mono (by simp; omega))).setCell (by simp) _).setCell (by simp) _
end Go.Proofs.YtijdghplfhfpaaaDoor.H
