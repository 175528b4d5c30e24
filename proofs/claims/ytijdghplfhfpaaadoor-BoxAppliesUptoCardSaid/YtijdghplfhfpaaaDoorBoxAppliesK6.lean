/- The claim BoxAppliesUptoCardSaid, part 6 of 6. -/
import Derived.Test.YtijdghplfhfpaaaDoorBoxAppliesK3
import Derived.Test.YtijdghplfhfpaaaDoorBoxAppliesK2
import Derived.Test.YtijdghplfhfpaaaDoorBoxAppliesK5
import Derived.Deep.QuietTactic
import Derived.Test.YtijdghplfhfpaaaDoorBoxAppliesK1
import Derived.Test.YtijdghplfhfpaaaDoorCards
import Derived.Test.YtijdghplfhfpaaaDoorTie
import Derived.WalkKit
import Derived.ProofKit
import Derived.OpenShut
import Derived.ShutString
import Derived.ChangeOld
import Derived.Below
import Derived.Carry
import Derived.SevenTiedAt
import Derived.Shelf.Vars
/- Boxes: box.own. -/
namespace Go.Proofs.YtijdghplfhfpaaaDoor.H
open Go.RowKit Go.Proofs.YtijdghplfhfpaaaDoorW.PrintWords Go.Proofs.YtijdghplfhfpaaaDoorW.PrintLast Go.Proofs.YtijdghplfhfpaaaDoor.U
set_option linter.unusedVariables false
set_option linter.unusedSimpArgs false
set_option maxHeartbeats 1000000 in
set_option maxRecDepth 100000 in
theorem cloneE_calls (A : Option Addr) (c : Nat) (l : List AEntry) (w : World) (hr : Kd.C kAEntry w A l.length l) (hl : l.length * 72 ≤ 140737488355328) :
    Calls Tryd.prog 89 #[.slice A l.length c] w fun e w' => ∃ v : Value, e = .returned v ∧ Kd.R kAEntry 40 w' w.heap.size (fun _ => True) v l ∧ Below w.heap.size w w' := by
  have hnil := fun (w : World) (a : Option Addr) (n c n' c' : Nat) => Lib.run_eql_slice_nil (P := Tryd.prog) w _ _ a n c n' c' rowAEntry.ht
  cases A with
  | none =>
    obtain ⟨rfl, _⟩ := C_nil _ w rfl hr
    go_enter Tryd.func89, Tryd.ntmps89
    go_wp2
    go_ret
    exact ⟨_, rfl, Kd.R_nil _ _ _ _ _, Below.refl _ _⟩
  | some ad =>
    go_enter Tryd.func89, Tryd.ntmps89
    go_wp2_with (at_builtin; refine rows_list rowAEntry w.heap.size rfl _ _ rfl (.slice (some ⟨w.heap.size, 0, none⟩) 0 0) [] l (some ad) c rfl rfl (R_lit0 _ _ _) (Kd.C_below hr (by repeat (first | exact Below.refl _ _ | apply below_alloc | apply pw_below_drewN | apply below_drew1))) (by simp) (by simpa using hl) ?_; intro v1 w1 hR hb1 hg1)
    go_ret
    exact ⟨_, rfl, hR, ((Below.refl _ _).alloc (Nat.le_refl _) _).trans hb1⟩
set_option maxHeartbeats 1000000 in
set_option maxRecDepth 100000 in
theorem cloneM_calls (A : Option Addr) (c : Nat) (l : List AMail) (w : World) (hr : Kd.C kAMail w A l.length l) (hl : l.length * 32 ≤ 140737488355328) :
    Calls Tryd.prog 90 #[.slice A l.length c] w fun e w' => ∃ v : Value, e = .returned v ∧ Kd.R kAMail 84 w' w.heap.size (fun _ => True) v l ∧ Below w.heap.size w w' := by
  have hnil := fun (w : World) (a : Option Addr) (n c n' c' : Nat) => Lib.run_eql_slice_nil (P := Tryd.prog) w _ _ a n c n' c' rowAMail.ht
  cases A with
  | none =>
    obtain ⟨rfl, _⟩ := C_nil _ w rfl hr
    go_enter Tryd.func90, Tryd.ntmps90
    go_wp2
    go_ret
    exact ⟨_, rfl, Kd.R_nil _ _ _ _ _, Below.refl _ _⟩
  | some ad =>
    go_enter Tryd.func90, Tryd.ntmps90
    go_wp2_with (at_builtin; refine rows_list rowAMail w.heap.size rfl _ _ rfl (.slice (some ⟨w.heap.size, 0, none⟩) 0 0) [] l (some ad) c rfl rfl (R_lit0 _ _ _) (Kd.C_below hr (by repeat (first | exact Below.refl _ _ | apply below_alloc | apply pw_below_drewN | apply below_drew1))) (by simp) (by simpa using hl) ?_; intro v1 w1 hR hb1 hg1)
    go_ret
    exact ⟨_, rfl, hR, ((Below.refl _ _).alloc (Nat.le_refl _) _).trans hb1⟩
set_option maxHeartbeats 2000000 in
set_option maxRecDepth 100000 in
theorem own_calls (A : Option Addr) (c : Nat) (bs : List ABox) (A2 : Option Addr) (c2 : Nat) (es : List AEntry) (w : World) (hr : kBox.C w A bs.length bs) (hr2 : Kd.C kAEntry w A2 es.length es) (hl1 : bs.length ≤ 1048576) (hl2 : es.length ≤ 1048576) (hl3 : ∀ b ∈ bs, b.2.2.length ≤ 1048576) :
    Calls Tryd.prog 54 #[.agg #[.slice A bs.length c, .slice A2 es.length c2]] w fun e w' => ∃ vB vS : Value, e = .returned (.agg #[vB, vS]) ∧ Kd.S kBox 77 w' w.heap.size (fun _ => True) vB bs ∧ Kd.R kAEntry 40 w' w.heap.size (fun _ => True) vS es ∧ Below w.heap.size w w' := by
  have h63 := hr.2.1
  obtain ⟨W2, hW2⟩ : ∃ W2 : World, W2 = (w.alloc (.cells #[.slice A bs.length c, .slice A2 es.length c2] 25)).alloc (.cells #[.slice none 0 0, .slice none 0 0] 25) := ⟨_, rfl⟩
  have hP0 : Blk W2 w.heap.size [.slice A bs.length c, .slice A2 es.length c2] := by rw [hW2]; exact (Blk.made w _ _).alloc _
  have hQ0 : Blk W2 (w.heap.size + 1) [.slice none 0 0, .slice none 0 0] := by rw [hW2]; exact Blk.made_at _ _ _ (by simp)
  have hB0 : Below w.heap.size w W2 := by rw [hW2]; exact (by repeat (first | exact Below.refl _ _ | apply below_alloc | apply pw_below_drewN | apply below_drew1 | (refine Below.setCell ?_ (by first | (simp; done) | (simp; omega) | omega) _) ))
  have hz0 : W2.heap.size = w.heap.size + 2 := by rw [hW2]; simp
  replace hW2 := Lib.hid hW2
  have HE := Lib.hid (cloneE_calls A2 c2 es W2 (Kd.C_below hr2 hB0) (by omega))
  go_enter Tryd.func54, Tryd.ntmps54
  go_wp2_with fail
  rw [← hW2.out]
  refine HE.out.mono ?_
  rintro e w1 ⟨vS, rfl, hE1, hb1⟩
  obtain ⟨A3, c3, rfl⟩ := Kd.R_slice hE1
  have hz1 := hb1.size
  obtain ⟨W3, hW3⟩ : ∃ W3 : World, W3 = w1.alloc (.cells #[.slice none 0 0, .slice A3 es.length c3] 25) := ⟨_, rfl⟩
  have hP : Blk W3 w.heap.size [.slice A bs.length c, .slice A2 es.length c2] := by rw [hW3]; exact (hP0.below hb1 (by omega)).alloc _
  have hQ : Blk W3 (w.heap.size + 1) [.slice none 0 0, .slice none 0 0] := by rw [hW3]; exact (hQ0.below hb1 (by omega)).alloc _
  have hO : Blk W3 w1.heap.size [.slice none 0 0, .slice A3 es.length c3] := by rw [hW3]; exact Blk.made _ _ _
  have hB3 : Below w.heap.size w W3 := by rw [hW3]; exact below_alloc' (hB0.trans (hb1.mono (by omega))) (by omega) _
  have hE3 : Kd.R kAEntry 40 W3 W2.heap.size (fun k => k ≠ w1.heap.size) (.slice A3 es.length c3) es := by rw [hW3]; exact Kd.R_mono (Kd.R_below (Kd.R_bound hE1) (by repeat (first | exact Below.refl _ _ | apply below_alloc | apply pw_below_drewN | apply below_drew1 | (refine Below.setCell ?_ (by first | (simp; done) | (simp; omega) | omega) _) ))) (fun k hk => by have := hk.2.2.1; omega)
  have hz3 : W3.heap.size = w1.heap.size + 1 := by rw [hW3]; simp
  replace hW3 := Lib.hid hW3
  have p0 := (hP0.below hb1 (by omega)).at 0 _ rfl
  have p00 : w.heap.size < w1.heap.size := by omega
  clear hP0 hQ0 hB0 hE1 hb1
  go_wp2_with fail
  rw [← hW3.out]
  go_loopw [13] (fun i wr => ∃ (k : Nat) (vB : Value), k ≤ bs.length ∧ i = .int .i64 k ∧ Kd.S kBox 77 wr (w1.heap.size + 1) (fun _ => True) vB (bs.take k) ∧ Blk wr w.heap.size [.slice A bs.length c, .slice A2 es.length c2] ∧ Blk wr (w.heap.size + 1) [.slice none 0 0, .slice none 0 0] ∧ Blk wr w1.heap.size [vB, .slice A3 es.length c3] ∧ Kd.R kAEntry 40 wr W2.heap.size (fun k => k ≠ w1.heap.size ∧ k < w1.heap.size + 1) (.slice A3 es.length c3) es ∧ w1.heap.size + 1 ≤ wr.heap.size ∧ Below w.heap.size w wr) (fun i _ => bs.length - (intOf i).toNat)
  case atStart => exact ⟨0, _, Nat.zero_le _, rfl, Kd.S_nil _ _ _ _ _, hP, hQ, hO, Kd.R_mono (Kd.R_bound hE3) (fun k hk => ⟨hk.1, by have := hk.2.2.1; omega⟩), by omega, hB3⟩
  case round =>
    clear hP hQ hO hB3 hE3 p0
    obtain ⟨k, vB, hk, rfl, hS, hP, hQ, hO, hE, hz, hB⟩ := hrel
    by_cases hlt : k < bs.length
    · obtain ⟨ad, Ae, ce, e1, x0, x1, x2, hC⟩ := box_at (Kd.C_below hr hB) k hlt
      subst e1
      rw [add1] at x1
      rw [add2] at x2
      have i0 : (0 : Int) ≤ (k : Int) := by omega
      have i1 : (k : Int) < (bs.length : Int) := by omega
      have hl4 := hl3 _ (List.getElem_mem hlt)
      obtain ⟨nm, nx, l, hbk⟩ : ∃ nm nx l, bs[k] = (nm, nx, l) := ⟨_, _, _, rfl⟩
      have htk := Lib.hid (boxes_take hlt hbk)
      rw [hbk] at x0 x1 x2 hC hl4
      simp only at x0 x1 x2 hC hl4
      clear hbk
      obtain ⟨Ab, cb, rfl⟩ := Kd.S_slice hS
      have hlk : (bs.take k).length = k := by rw [List.length_take]; omega
      rw [hlk] at hO
      rw [hlk] at hS
      replace hlk := Lib.hid hlk
      have hX := Blk.made wr #[.string nm, .int .i64 nx, .slice Ae l.length ce] 77
      have hB1 : Below wr.heap.size wr (wr.alloc (.cells #[.string nm, .int .i64 nx, .slice Ae l.length ce] 77)) := (by repeat (first | exact Below.refl _ _ | apply below_alloc | apply pw_below_drewN | apply below_drew1 | (refine Below.setCell ?_ (by first | (simp; done) | (simp; omega) | omega) _) ))
      have HM := Lib.hid (cloneM_calls Ae ce l _ (Kd.C_below hC hB1) (by omega))
      go_wp2_with fail
      refine HM.out.mono ?_
      rintro e w5 ⟨vM, rfl, hR1, hb5⟩
      obtain ⟨A1, c1, rfl⟩ := Kd.R_slice hR1
      have hz5 := hb5.size
      simp at hz5
      have hX1 := hX.below hb5 (by first | (simp; done) | (simp; omega) | omega)
      have hO1 := (hO.alloc (.cells #[.string nm, .int .i64 nx, .slice Ae l.length ce] 77)).below hb5 (by first | (simp; done) | (simp; omega) | omega)
      have nn : ¬ w1.heap.size = wr.heap.size := by omega
      have nn2 : ¬ wr.heap.size = w1.heap.size := by omega
      have o0 := hO1.at 0 _ rfl
      have o1 := hO1.free 0 _ rfl
      have y0 := hX1.at 0 _ rfl
      have y1 := hX1.at 1 _ rfl
      have y2 := hX1.at 2 _ rfl
      have f2 := hX1.free 2 _ rfl
      have hB2 : Below wr.heap.size wr w5 := hB1.trans (hb5.mono (by first | (simp; done) | (simp; omega) | omega))
      have hM2 : Kd.R kAMail 84 (w5.setCell ⟨wr.heap.size, 2, none⟩ (.slice A1 l.length c1)) (wr.heap.size + 1) (fun _ => True) (.slice A1 l.length c1) l := R_elder (Kd.R_lower hR1 (by simp)) (show wr.heap.size < wr.heap.size + 1 by omega) _
      have hS2 : Kd.S kBox 77 (w5.setCell ⟨wr.heap.size, 2, none⟩ (.slice A1 l.length c1)) (w1.heap.size + 1) (fun k => k < wr.heap.size + 1) (.slice Ab k cb) (bs.take k) :=
        Kd.S_mono (Kd.S_far (p := ⟨wr.heap.size, 2, none⟩) (S_since hS hB2) (fun k hk => by show k ≠ wr.heap.size; omega) _) (fun k hk => by show k < wr.heap.size + 1; omega)
      go_wp2_with (at_builtin; refine snocS_list (w1.heap.size + 1) (wr.heap.size + 1) rfl _ _ rfl (.slice Ab k cb) (bs.take k) nm nx l (.slice A1 l.length c1) (by first | rfl | (simp [Act.eval]; done)) (by first | rfl | (simp [Act.eval]; done)) hM2 (by omega) hS2 (by simp; omega) (by rw [hlk.out]; omega) ?_)
      intro v9 w9 hS9 hb9
      have hz9 := hb9.size
      simp at hz9
      have hO9 := (hO1.other (c := wr.heap.size) (j := 2) nn2 (.slice A1 l.length c1)).below hb9 (by omega)
      have hP9 := ((hP.below hB2 (by omega)).other (c := wr.heap.size) (j := 2) (by omega) (.slice A1 l.length c1)).below hb9 (by omega)
      have hQ9 := ((hQ.below hB2 (by omega)).other (c := wr.heap.size) (j := 2) (by omega) (.slice A1 l.length c1)).below hb9 (by omega)
      have hE9 := Kd.R_step (Kd.R_far (p := ⟨wr.heap.size, 2, none⟩) (Kd.R_below hE hB2) (fun k hk => by have := hk.2; show k ≠ wr.heap.size; omega) (.slice A1 l.length c1)) (fun k hk _ => hb9.block k hk.2)
      have g0 := hO9.at 0 _ rfl
      have g1 := hO9.free 0 _ rfl
      have hB9 : Below w.heap.size w w9 := by
        refine Below.trans (Below.setCell (hB.trans (hB2.mono (by omega))) (show w.heap.size ≤ wr.heap.size by omega) _) (hb9.mono (by omega))
      clear o0 o1 y0 y1 y2 f2 hO1 hX1 hS2 hM2 hb9 hb5 hR1 hE
      obtain ⟨A9, c9, h9⟩ := Kd.S_slice hS9
      rw [List.length_append, hlk.out] at h9
      subst h9
      go_wp2_with fail
      go_roundw
      case rel => exact ⟨k + 1, _, hlt, by go_num, by rw [htk.out]; exact S_elder hS9 (by show w1.heap.size < w1.heap.size + 1; omega) _, hP9.other (by omega) _, hQ9.other (by omega) _, hO9.set 0 _ (by simp), Kd.R_far (p := ⟨w1.heap.size, 0, none⟩) hE9 (fun k hk => hk.1) _, by simp; omega, Below.setCell hB9 (by show w.heap.size ≤ w1.heap.size; omega) _⟩
      case measure => simp [intOf]; omega
    · obtain rfl : k = bs.length := by omega
      rw [List.take_length] at hS
      have o0 := hO.at 0 _ rfl
      have o1 := hO.at 1 _ rfl
      have q0 := hQ.at 0 _ rfl
      have q1 := hQ.at 1 _ rfl
      have q2 := hQ.free 0 _ rfl
      have q3 := hQ.free 1 _ rfl
      have i1 : ¬ (bs.length : Int) < (bs.length : Int) := by omega
      obtain ⟨Ab, cb, rfl⟩ := Kd.S_slice hS
      go_wp2_with fail
      refine bodyPost_ret (v := .agg #[.slice Ab bs.length cb, .slice A3 es.length c3]) (by simp [results, Tryd.results54, go_sem, *]) rfl ?_
      refine ⟨_, _, rfl, ?_, ?_, (by repeat (first | exact Below.refl _ _ | apply below_alloc | apply pw_below_drewN | apply below_drew1 | (refine Below.setCell ?_ (by first | (simp; done) | (simp; omega) | omega) _) | exact hB))⟩
      · exact Kd.S_lower (S_elder (S_elder hS (show w.heap.size + 1 < w1.heap.size + 1 by omega) _) (show w.heap.size + 1 < w1.heap.size + 1 by omega) _) (by omega)
      · exact Kd.R_lower (R_elder (R_elder (Kd.R_mono hE (fun _ _ => trivial)) (show w.heap.size + 1 < W2.heap.size by omega) _) (show w.heap.size + 1 < W2.heap.size by omega) _) (by omega)
end Go.Proofs.YtijdghplfhfpaaaDoor.H

/- Boxes: box.Check: the walk. -/
namespace Go.Proofs.YtijdghplfhfpaaaDoor.H
open Go.RowKit Go.Proofs.YtijdghplfhfpaaaDoorW.PrintWords Go.Proofs.YtijdghplfhfpaaaDoorW.PrintLast Go.Proofs.YtijdghplfhfpaaaDoor.U
set_option linter.unusedVariables false
set_option linter.unusedSimpArgs false
set_option maxHeartbeats 2000000 in
set_option maxRecDepth 100000 in
theorem boxCheck_calls (A : Option Addr) (c : Nat) (bs : List ABox) (A2 : Option Addr) (c2 : Nat) (es : List AEntry) (m : Int) (w : World) (hr : kBox.C w A bs.length bs) (hc : bs.length ≤ c) (hr2 : Kd.C kAEntry w A2 es.length es) (hs : okSt bs es)
    (hm : w.cell? ⟨6, 0, none⟩ = some (.int .i64 m)) (hg : 6 < w.heap.size) :
    Calls Tryd.prog 13 #[.agg #[.slice A bs.length c, .slice A2 es.length c2]] w fun e w' => e = .returned (.int .i64 (stFault bs es)) ∧ Below w.heap.size w w' := by
  have h63 := hr.2.1
  have h64 := hr2.2.1
  by_cases hlen : 5 < bs.length ∨ 20 < es.length
  · rw [stFault, if_pos hlen]
    by_cases h1 : 5 < bs.length
    · have h1' : (5 : Int) < (bs.length : Int) := by omega
      go_enter Tryd.func13, Tryd.ntmps13
      go_wp2_with fail
      go_ret
      exact ⟨(by first | rfl | (simp; done) | (simp [*]; done) | (rw [if_pos (by omega)]; first | rfl | (simp; done)) | (rw [if_neg (by omega)]; first | rfl | (simp; done)) | (simp; omega)), (by repeat (first | exact Below.refl _ _ | apply below_alloc | apply pw_below_drewN | apply below_drew1 | (refine Below.setCell ?_ (by first | (simp; done) | (simp; omega) | omega) _) ))⟩
    · have h1' : ¬ (5 : Int) < (bs.length : Int) := by omega
      have h2' : (20 : Int) < (es.length : Int) := by omega
      go_enter Tryd.func13, Tryd.ntmps13
      go_wp2_with fail
      go_ret
      exact ⟨(by first | rfl | (simp; done) | (simp [*]; done) | (rw [if_pos (by omega)]; first | rfl | (simp; done)) | (rw [if_neg (by omega)]; first | rfl | (simp; done)) | (simp; omega)), (by repeat (first | exact Below.refl _ _ | apply below_alloc | apply pw_below_drewN | apply below_drew1 | (refine Below.setCell ?_ (by first | (simp; done) | (simp; omega) | omega) _) ))⟩
  · rw [stFault, if_neg hlen]
    have h1' : ¬ (5 : Int) < (bs.length : Int) := by omega
    have h2' : ¬ (20 : Int) < (es.length : Int) := by omega
    have hl5 : bs.length ≤ 5 := by omega
    generalize hR : stTail bs es = R
    have hk0 := Blk.made w #[.slice A bs.length c, .slice A2 es.length c2] 25
    have hB0 : Below w.heap.size w (w.alloc (.cells #[.slice A bs.length c, .slice A2 es.length c2] 25)) := (by repeat (first | exact Below.refl _ _ | apply below_alloc | apply pw_below_drewN | apply below_drew1 | (refine Below.setCell ?_ (by first | (simp; done) | (simp; omega) | omega) _) ))
    clear hlen
    go_enter Tryd.func13, Tryd.ntmps13
    go_wp2_with fail
    go_loopw [3, 20] (fun _ i wr => ∃ k : Nat, k ≤ bs.length ∧ i = .int .i64 k ∧ (boxesFrom bs k = true → boxesFrom bs 0 = true) ∧ (boxesFrom bs k = false → R = 11) ∧ Blk wr w.heap.size [.slice A bs.length c, .slice A2 es.length c2] ∧ Below w.heap.size w wr) (fun _ i _ => bs.length - (intOf i).toNat)
    case atStart => exact ⟨0, Nat.zero_le _, rfl, id, (fun h => by rw [← hR, stTail, if_neg (by rw [h]; decide)]), hk0, hB0⟩
    case round =>
      clear hk0 hB0
      obtain ⟨k, hk, rfl, hyes, hno, hblk, hB⟩ := hrel
      have hz := hblk.lt
      have b0 := hblk.at 0 _ rfl
      by_cases hlt : k < bs.length
      · obtain ⟨ad, Ae, ce, e1, x0, x1, x2, hC⟩ := box_at (Kd.C_below hr hB) k hlt
        subst e1
        rw [add1] at x1
        rw [add2] at x2
        have i0 : (0 : Int) ≤ (k : Int) := by omega
        have i1 : (k : Int) < (bs.length : Int) := by omega
        have hsz := hs.1 _ (List.getElem_mem hlt)
        have hbd := fun h => boxes_bad hlt h
        have hgd := fun h h2 => boxes_good hlt h h2
        obtain ⟨nm, nx, l, hbk⟩ : ∃ nm nx l, bs[k] = (nm, nx, l) := ⟨_, _, _, rfl⟩
        rw [hbk] at x0 x1 x2 hC hsz hbd hgd
        simp only at x0 x1 x2 hC hsz hbd hgd
        clear hbk
        have HBx := fun w hr' => box_calls nm nx Ae ce l w hr' hsz
        have HF := fun w hr' => find_calls (some ad) c (bs.take k) nm w hr'
        have htk : (bs.take k).length = k := by rw [List.length_take]; omega
        rw [htk] at HF
        generalize findG nm (bs.take k) 0 = fi at *
        generalize boxOk (nm, nx, l) = ok at *
        replace HF := Lib.hid HF
        have i2 : (k : Int) ≤ (c : Int) := by omega
        have hX := Blk.made wr #[.string nm, .int .i64 nx, .slice Ae l.length ce] 77
        have hBx : Below w.heap.size w (wr.alloc (.cells #[.string nm, .int .i64 nx, .slice Ae l.length ce] 77)) := (by repeat (first | exact Below.refl _ _ | apply below_alloc | apply pw_below_drewN | apply below_drew1 | (refine Below.setCell ?_ (by first | (simp; done) | (simp; omega) | omega) _) | exact hB))
        have hCx : Kd.C kAMail (wr.alloc (.cells #[.string nm, .int .i64 nx, .slice Ae l.length ce] 77)) Ae l.length l := Kd.C_below hC (by repeat (first | exact Below.refl _ _ | apply below_alloc | apply pw_below_drewN | apply below_drew1 | (refine Below.setCell ?_ (by first | (simp; done) | (simp; omega) | omega) _) ))
        obtain ⟨Wx, hWx⟩ : ∃ Wx : World, Wx = wr.alloc (.cells #[.string nm, .int .i64 nx, .slice Ae l.length ce] 77) := ⟨_, rfl⟩
        rw [← hWx] at hX hBx hCx
        have hkx : Blk Wx w.heap.size [.slice (some ad) bs.length c, .slice A2 es.length c2] := by rw [hWx]; exact hblk.alloc _
        have hXd := hX.drew
        have hkd := hkx.drew
        have hBd : Below w.heap.size w Wx.drew := (by repeat (first | exact Below.refl _ _ | apply below_alloc | apply pw_below_drewN | apply below_drew1 | (refine Below.setCell ?_ (by first | (simp; done) | (simp; omega) | omega) _) | exact hBx))
        have hCd := Kd.C_below hCx (show Below Wx.heap.size Wx Wx.drew from (by repeat (first | exact Below.refl _ _ | apply below_alloc | apply pw_below_drewN | apply below_drew1 | (refine Below.setCell ?_ (by first | (simp; done) | (simp; omega) | omega) _) )))
        have hzd := hXd.lt
        have hzk := hkd.lt
        replace hWx := Lib.hid hWx
        go_wp2_with fail
        rw [← hWx.out]
        refine wp_region_held_drew (S := fun w' => (w'.cell? ⟨wr.heap.size, 0, none⟩ = some (.string nm) ∧ w'.cell? ⟨wr.heap.size, 1, none⟩ = some (.int .i64 nx) ∧ w'.cell? ⟨wr.heap.size, 2, none⟩ = some (.slice Ae l.length ce)) ∧ w'.cell? ⟨w.heap.size, 0, none⟩ = some (.slice (some ad) bs.length c)) (by kernel_rfl) ?_ (fun hHeld => ?_)
        · exact ⟨⟨hXd.at 0 _ rfl, hXd.at 1 _ rfl, hXd.at 2 _ rfl⟩, hkd.at 0 _ rfl⟩
        refine wpAnyH_take (i := 0) (oi := { dst := some 25, op := _, type := _, pos := _, after := _, guard := _ }) (v := .agg #[.string nm, .int .i64 nx, .slice Ae l.length ce]) rfl (by kernel_rfl) (by kernel_rfl) (by kernel_rfl) (fun _ _ _ h => h) (Or.inl ⟨by rfl, by (intro w hSw; (try dsimp only at hSw); first | (go_simp; done) | (go_simp; with_reducible rfl) | (go_simp; omega) | (go_simp; simp [*]; done))⟩) (by assumption) ?_; try simp only [Act.put, List.setIfInBounds_toArray, List.set_cons_zero, List.set_cons_succ]
        refine wpAnyH_ready (rs := [1]) (by kernel_rfl) (by simp) ?_
        refine AllReadyH.cons (o := { dst := some 26, op := _, type := _, pos := _, after := _, guard := _ }) rfl (fun K hK => ?_) AllReadyH.nil
        go_simp
        go_at_call 46
        refine (HBx _ hCd).mono ?_
        rintro e w2 ⟨rfl, hb2⟩
        have hX2 := hXd.below hb2 hzd
        have hk2 := hkd.below hb2 hzk
        have hB2 := hBd.trans (hb2.mono hBd.size)
        have hz2 := hb2.size
        go_wp2_with fail
        refine hK.out _ _ ⟨⟨hX2.at 0 _ rfl, hX2.at 1 _ rfl, hX2.at 2 _ rfl⟩, hk2.at 0 _ rfl⟩ (fun hHeld => ?_)
        clear hK K
        cases ok with
        | false =>
          have hR11 := hno (hbd (fun h => by cases h.1))
          subst hR11
          refine wpAnyH_take (i := 2) (oi := { dst := some 27, op := _, type := _, pos := _, after := _, guard := _ }) (v := .bool true) rfl (by kernel_rfl) (by kernel_rfl) (by kernel_rfl) (fun _ _ _ h => h) (Or.inl ⟨by rfl, by (intro w hSw; (try dsimp only at hSw); first | (go_simp; done) | (go_simp; with_reducible rfl) | (go_simp; omega) | (go_simp; simp [*]; done))⟩) (by assumption) ?_; try simp only [Act.put, List.setIfInBounds_toArray, List.set_cons_zero, List.set_cons_succ]
          refine wpAnyH_take (i := 3) (oi := { dst := some 28, op := _, type := _, pos := _, after := _, guard := _ }) (v := .bool true) rfl (by kernel_rfl) (by kernel_rfl) (by kernel_rfl) (fun _ _ _ h => h) (Or.inl ⟨by rfl, by (intro w hSw; (try dsimp only at hSw); first | (go_simp; done) | (go_simp; with_reducible rfl) | (go_simp; omega) | (go_simp; simp [*]; done))⟩) (by assumption) ?_; try simp only [Act.put, List.setIfInBounds_toArray, List.set_cons_zero, List.set_cons_succ]
          refine wpAnyH_take (i := 4) (oi := { dst := some 29, op := _, type := _, pos := _, after := _, guard := _ }) (v := undef) rfl (by kernel_rfl) (by kernel_rfl) (by kernel_rfl) (fun _ _ _ h => h) (Or.inr ⟨by rfl, rfl⟩) (by assumption) ?_; try simp only [Act.put, List.setIfInBounds_toArray, List.set_cons_zero, List.set_cons_succ]
          refine wpAnyH_take (i := 5) (oi := { dst := some 30, op := _, type := _, pos := _, after := _, guard := _ }) (v := undef) rfl (by kernel_rfl) (by kernel_rfl) (by kernel_rfl) (fun _ _ _ h => h) (Or.inr ⟨by rfl, rfl⟩) (by assumption) ?_; try simp only [Act.put, List.setIfInBounds_toArray, List.set_cons_zero, List.set_cons_succ]
          refine wpAnyH_take (i := 6) (oi := { dst := some 31, op := _, type := _, pos := _, after := _, guard := _ }) (v := undef) rfl (by kernel_rfl) (by kernel_rfl) (by kernel_rfl) (fun _ _ _ h => h) (Or.inr ⟨by rfl, rfl⟩) (by assumption) ?_; try simp only [Act.put, List.setIfInBounds_toArray, List.set_cons_zero, List.set_cons_succ]
          refine wpAnyH_take (i := 7) (oi := { dst := some 32, op := _, type := _, pos := _, after := _, guard := _ }) (v := undef) rfl (by kernel_rfl) (by kernel_rfl) (by kernel_rfl) (fun _ _ _ h => h) (Or.inr ⟨by rfl, rfl⟩) (by assumption) ?_; try simp only [Act.put, List.setIfInBounds_toArray, List.set_cons_zero, List.set_cons_succ]
          refine wpAnyH_take (i := 8) (oi := { dst := some 33, op := _, type := _, pos := _, after := _, guard := _ }) (v := undef) rfl (by kernel_rfl) (by kernel_rfl) (by kernel_rfl) (fun _ _ _ h => h) (Or.inr ⟨by rfl, rfl⟩) (by assumption) ?_; try simp only [Act.put, List.setIfInBounds_toArray, List.set_cons_zero, List.set_cons_succ]
          refine wpAnyH_take (i := 9) (oi := { dst := some 34, op := _, type := _, pos := _, after := _, guard := _ }) (v := undef) rfl (by kernel_rfl) (by kernel_rfl) (by kernel_rfl) (fun _ _ _ h => h) (Or.inr ⟨by rfl, rfl⟩) (by assumption) ?_; try simp only [Act.put, List.setIfInBounds_toArray, List.set_cons_zero, List.set_cons_succ]
          refine wpAnyH_take (i := 10) (oi := { dst := some 35, op := _, type := _, pos := _, after := _, guard := _ }) (v := undef) rfl (by kernel_rfl) (by kernel_rfl) (by kernel_rfl) (fun _ _ _ h => h) (Or.inr ⟨by rfl, rfl⟩) (by assumption) ?_; try simp only [Act.put, List.setIfInBounds_toArray, List.set_cons_zero, List.set_cons_succ]
          refine wpAnyH_take (i := 11) (oi := { dst := some 36, op := _, type := _, pos := _, after := _, guard := _ }) (v := undef) rfl (by kernel_rfl) (by kernel_rfl) (by kernel_rfl) (fun _ _ _ h => h) (Or.inr ⟨by rfl, rfl⟩) (by assumption) ?_; try simp only [Act.put, List.setIfInBounds_toArray, List.set_cons_zero, List.set_cons_succ]
          refine wpAnyH_take (i := 12) (oi := { dst := some 37, op := _, type := _, pos := _, after := _, guard := _ }) (v := .bool true) rfl (by kernel_rfl) (by kernel_rfl) (by kernel_rfl) (fun _ _ _ h => h) (Or.inl ⟨by rfl, by (intro w hSw; (try dsimp only at hSw); first | (go_simp; done) | (go_simp; with_reducible rfl) | (go_simp; omega) | (go_simp; simp [*]; done))⟩) (by assumption) ?_; try simp only [Act.put, List.setIfInBounds_toArray, List.set_cons_zero, List.set_cons_succ]
          refine wpAnyH_done (by kernel_rfl) ?_ _
          go_wp2_with fail
          go_ret
          exact ⟨(by first | rfl | (simp; done) | (simp [*]; done) | (rw [if_pos (by omega)]; first | rfl | (simp; done)) | (rw [if_neg (by omega)]; first | rfl | (simp; done)) | (simp; omega)), hB2⟩
        | true =>
          have hpre := C_pre (Kd.C_below hr hB2) k hk
          refine wpAnyH_take (i := 2) (oi := { dst := some 27, op := _, type := _, pos := _, after := _, guard := _ }) (v := .bool false) rfl (by kernel_rfl) (by kernel_rfl) (by kernel_rfl) (fun _ _ _ h => h) (Or.inl ⟨by rfl, by (intro w hSw; (try dsimp only at hSw); first | (go_simp; done) | (go_simp; with_reducible rfl) | (go_simp; omega) | (go_simp; simp [*]; done))⟩) (by assumption) ?_; try simp only [Act.put, List.setIfInBounds_toArray, List.set_cons_zero, List.set_cons_succ]
          refine wpAnyH_take (i := 3) (oi := { dst := some 28, op := _, type := _, pos := _, after := _, guard := _ }) (v := .bool false) rfl (by kernel_rfl) (by kernel_rfl) (by kernel_rfl) (fun _ _ _ h => h) (Or.inl ⟨by rfl, by (intro w hSw; (try dsimp only at hSw); first | (go_simp; done) | (go_simp; with_reducible rfl) | (go_simp; omega) | (go_simp; simp [*]; done))⟩) (by assumption) ?_; try simp only [Act.put, List.setIfInBounds_toArray, List.set_cons_zero, List.set_cons_succ]
          refine wpAnyH_take (i := 4) (oi := { dst := some 29, op := _, type := _, pos := _, after := _, guard := _ }) (v := .pointer (some ⟨w.heap.size, 0, none⟩)) rfl (by kernel_rfl) (by kernel_rfl) (by kernel_rfl) (fun _ _ _ h => h) (Or.inl ⟨by rfl, by (intro w hSw; (try dsimp only at hSw); first | (go_simp; done) | (go_simp; with_reducible rfl) | (go_simp; omega) | (go_simp; simp [*]; done))⟩) (by assumption) ?_; try simp only [Act.put, List.setIfInBounds_toArray, List.set_cons_zero, List.set_cons_succ]
          refine wpAnyH_take (i := 5) (oi := { dst := some 30, op := _, type := _, pos := _, after := _, guard := _ }) (v := .slice (some ad) bs.length c) rfl (by kernel_rfl) (by kernel_rfl) (by kernel_rfl) (fun _ _ _ h => h) (Or.inl ⟨by rfl, by (intro w hSw; (try dsimp only at hSw); first | (go_simp; done) | (go_simp; with_reducible rfl) | (go_simp; omega) | (go_simp; simp [*]; done))⟩) (by assumption) ?_; try simp only [Act.put, List.setIfInBounds_toArray, List.set_cons_zero, List.set_cons_succ]
          refine wpAnyH_take (i := 6) (oi := { dst := some 31, op := _, type := _, pos := _, after := _, guard := _ }) (v := .int .i64 k) rfl (by kernel_rfl) (by kernel_rfl) (by kernel_rfl) (fun _ _ _ h => h) (Or.inl ⟨by rfl, by (intro w hSw; (try dsimp only at hSw); first | (go_simp; done) | (go_simp; with_reducible rfl) | (go_simp; omega) | (go_simp; simp [*]; done))⟩) (by assumption) ?_; try simp only [Act.put, List.setIfInBounds_toArray, List.set_cons_zero, List.set_cons_succ]
          refine wpAnyH_take (i := 7) (oi := { dst := some 32, op := _, type := _, pos := _, after := _, guard := _ }) (v := .slice (some ad) k c) rfl (by kernel_rfl) (by kernel_rfl) (by kernel_rfl) (fun _ _ _ h => h) (Or.inl ⟨by rfl, by (intro w hSw; (try dsimp only at hSw); first | (go_simp; done) | (go_simp; with_reducible rfl) | (go_simp; omega) | (go_simp; simp [*]; done))⟩) (by assumption) ?_; try simp only [Act.put, List.setIfInBounds_toArray, List.set_cons_zero, List.set_cons_succ]
          refine wpAnyH_take (i := 8) (oi := { dst := some 33, op := _, type := _, pos := _, after := _, guard := _ }) (v := .pointer (some ⟨wr.heap.size, 0, none⟩)) rfl (by kernel_rfl) (by kernel_rfl) (by kernel_rfl) (fun _ _ _ h => h) (Or.inl ⟨by rfl, by (intro w hSw; (try dsimp only at hSw); first | (go_simp; done) | (go_simp; with_reducible rfl) | (go_simp; omega) | (go_simp; simp [*]; done))⟩) (by assumption) ?_; try simp only [Act.put, List.setIfInBounds_toArray, List.set_cons_zero, List.set_cons_succ]
          refine wpAnyH_take (i := 9) (oi := { dst := some 34, op := _, type := _, pos := _, after := _, guard := _ }) (v := .string nm) rfl (by kernel_rfl) (by kernel_rfl) (by kernel_rfl) (fun _ _ _ h => h) (Or.inl ⟨by rfl, by (intro w hSw; (try dsimp only at hSw); first | (go_simp; done) | (go_simp; with_reducible rfl) | (go_simp; omega) | (go_simp; simp [*]; done))⟩) (by assumption) ?_; try simp only [Act.put, List.setIfInBounds_toArray, List.set_cons_zero, List.set_cons_succ]
          refine wpAnyH_ready (rs := [10]) (by kernel_rfl) (by simp) ?_
          refine AllReadyH.cons (o := { dst := some 35, op := _, type := _, pos := _, after := _, guard := _ }) rfl (fun K hK => ?_) AllReadyH.nil
          go_simp
          go_at_call 47
          refine (HF.out _ hpre).mono ?_
          rintro e w3 ⟨rfl, hb3⟩
          have hX3 := hX2.below hb3 (by omega)
          have hk3 := hk2.below hb3 (by omega)
          have hB3 := hB2.trans (hb3.mono hB2.size)
          go_wp2_with fail
          refine hK.out _ _ ⟨⟨hX3.at 0 _ rfl, hX3.at 1 _ rfl, hX3.at 2 _ rfl⟩, hk3.at 0 _ rfl⟩ (fun hHeld => ?_)
          clear hK K
          by_cases hfi : fi < 0
          · have hstep := hgd (by trivial) hfi
            have hfi' : ¬ 0 ≤ fi := by omega
            refine wpAnyH_take (i := 11) (oi := { dst := some 36, op := _, type := _, pos := _, after := _, guard := _ }) (v := .bool false) rfl (by kernel_rfl) (by kernel_rfl) (by kernel_rfl) (fun _ _ _ h => h) (Or.inl ⟨by rfl, by (intro w hSw; (try dsimp only at hSw); first | (go_simp; done) | (go_simp; with_reducible rfl) | (go_simp; omega) | (go_simp; simp [*]; done))⟩) (by assumption) ?_; try simp only [Act.put, List.setIfInBounds_toArray, List.set_cons_zero, List.set_cons_succ]
            refine wpAnyH_take (i := 12) (oi := { dst := some 37, op := _, type := _, pos := _, after := _, guard := _ }) (v := .bool false) rfl (by kernel_rfl) (by kernel_rfl) (by kernel_rfl) (fun _ _ _ h => h) (Or.inl ⟨by rfl, by (intro w hSw; (try dsimp only at hSw); first | (go_simp; done) | (go_simp; with_reducible rfl) | (go_simp; omega) | (go_simp; simp [*]; done))⟩) (by assumption) ?_; try simp only [Act.put, List.setIfInBounds_toArray, List.set_cons_zero, List.set_cons_succ]
            refine wpAnyH_done (by kernel_rfl) ?_ _
            replace hyes := Lib.hid (hstep ▸ hyes)
            replace hno := Lib.hid (hstep ▸ hno)
            clear hstep hbd hgd
            go_wp2_with fail
            go_roundw
            case rel => exact ⟨k + 1, hlt, by go_num, hyes.out, hno.out, hk3, hB3⟩
            case measure => simp [intOf]; omega
          · have hR11 := hno (hbd (fun h => hfi h.2))
            subst hR11
            have hfi' : 0 ≤ fi := by omega
            refine wpAnyH_take (i := 11) (oi := { dst := some 36, op := _, type := _, pos := _, after := _, guard := _ }) (v := .bool true) rfl (by kernel_rfl) (by kernel_rfl) (by kernel_rfl) (fun _ _ _ h => h) (Or.inl ⟨by rfl, by (intro w hSw; (try dsimp only at hSw); first | (go_simp; done) | (go_simp; with_reducible rfl) | (go_simp; omega) | (go_simp; simp [*]; done))⟩) (by assumption) ?_; try simp only [Act.put, List.setIfInBounds_toArray, List.set_cons_zero, List.set_cons_succ]
            refine wpAnyH_take (i := 12) (oi := { dst := some 37, op := _, type := _, pos := _, after := _, guard := _ }) (v := .bool true) rfl (by kernel_rfl) (by kernel_rfl) (by kernel_rfl) (fun _ _ _ h => h) (Or.inl ⟨by rfl, by (intro w hSw; (try dsimp only at hSw); first | (go_simp; done) | (go_simp; with_reducible rfl) | (go_simp; omega) | (go_simp; simp [*]; done))⟩) (by assumption) ?_; try simp only [Act.put, List.setIfInBounds_toArray, List.set_cons_zero, List.set_cons_succ]
            refine wpAnyH_done (by kernel_rfl) ?_ _
            go_wp2_with fail
            go_ret
            exact ⟨(by first | rfl | (simp; done) | (simp [*]; done) | (rw [if_pos (by omega)]; first | rfl | (simp; done)) | (rw [if_neg (by omega)]; first | rfl | (simp; done)) | (simp; omega)), hB3⟩
      · obtain rfl : k = bs.length := by omega
        have i1 : ¬ (bs.length : Int) < (bs.length : Int) := by omega
        have hall := hyes (boxes_end (by omega))
        have b1 := hblk.at 1 _ rfl
        rw [stTail, if_pos hall] at hR
        have htot : stSize bs ≤ 1000000 := by
          have h1 := boxes_sz bs.length 0 (by omega) hall
          have h2 : (bs.length - 0) * 60000 ≤ 5 * 60000 := Nat.mul_le_mul_right _ (by omega)
          rw [List.drop_zero] at h1; omega
        clear hyes hno hall
        replace hR := Lib.hid hR
        go_wp2_with fail
        go_loopw [42] (fun i wr => ∃ k : Nat, k ≤ es.length ∧ i = .int .i64 k ∧ spoolOk (es.drop k) = spoolOk es ∧ Blk wr w.heap.size [.slice A bs.length c, .slice A2 es.length c2] ∧ Below w.heap.size w wr) (fun i _ => es.length - (intOf i).toNat)
        case atStart => exact ⟨0, Nat.zero_le _, rfl, rfl, hblk, hB⟩
        case round =>
          clear hblk hB b0 b1 hz
          obtain ⟨k, hk, rfl, hsp, hblk, hB⟩ := hrel
          have hz := hblk.lt
          have b0 := hblk.at 0 _ rfl
          have b1 := hblk.at 1 _ rfl
          by_cases hlt : k < es.length
          · obtain ⟨ad, e1, hx0, hxj⟩ := flat_at (Kd.C_below hr2 hB) k hlt
            subst e1
            have q0 := hx0 _ rfl; have q1 := hxj 1 _ (by decide) rfl; have q2 := hxj 2 _ (by decide) rfl; have q3 := hxj 3 _ (by decide) rfl; have q4 := hxj 4 _ (by decide) rfl; have q5 := hxj 5 _ (by decide) rfl
            clear hx0 hxj
            obtain ⟨s1, s2, s3⟩ := hs.2 _ (List.getElem_mem hlt)
            have hbd := fun h => spool_bad hlt h
            have hgd := fun h h2 => spool_good hlt h h2
            rw [hsp] at hbd hgd
            have i0 : (0 : Int) ≤ (k : Int) := by omega
            have j1 : (k : Int) < (es.length : Int) := by omega
            generalize es[k] = x at *
            have HF := fun w hm hg => form_calls x m w s1 s2 s3 hm hg
            by_cases hk6 : x.kind = 6
            · by_cases hf : entryFault x = 0
              · rw [hf] at HF
                have hn := hgd hk6 hf
                replace hn := Lib.hid hn
                replace HF := Lib.hid HF
                have hkb : (x.kind != 6) = false := by simp [hk6]
                clear hbd hgd hf hsp hk6
                go_wp2_with fail
                refine (HF.out _ (cell_below (B := wr.heap.size) (by repeat (first | exact Below.refl _ _ | apply below_alloc | apply pw_below_drewN | apply below_drew1 | (refine Below.setCell ?_ (by first | (simp; done) | (simp; omega) | omega) _) )) (cell_below hB hm hg) (by omega)) (by first | (simp; done) | (simp; omega) | omega)).mono ?_
                rintro e w2 ⟨rfl, hc2⟩
                have hb2 : Below wr.heap.size wr w2 := (by repeat (first | exact Below.refl _ _ | apply below_alloc | apply pw_below_drewN | apply below_drew1 | (refine Below.setCell ?_ (by first | (simp; done) | (simp; omega) | omega) _) | (refine below_then ?_ (by first | (simp; done) | (simp; omega) | omega) hc2)))
                have hblk2 := hblk.below hb2 hz
                have hB2 := hB.trans (hb2.mono (by omega))
                clear hc2 hb2 hblk
                go_wp2_with fail
                go_roundw
                case rel => exact ⟨k + 1, hlt, by go_num, hn.out.symm, hblk2, hB2⟩
                case measure => simp [intOf]; omega
              · have hR2 := hR.out
                rw [hbd (fun h => hf h.2), if_neg (by decide)] at hR2
                subst hR2
                generalize entryFault x = f at *
                have hfb : (f != 0) = true := by simp [hf]
                replace HF := Lib.hid HF
                have hkb : (x.kind != 6) = false := by simp [hk6]
                clear hbd hgd hf hsp hk6
                go_wp2_with fail
                refine (HF.out _ (cell_below (B := wr.heap.size) (by repeat (first | exact Below.refl _ _ | apply below_alloc | apply pw_below_drewN | apply below_drew1 | (refine Below.setCell ?_ (by first | (simp; done) | (simp; omega) | omega) _) )) (cell_below hB hm hg) (by omega)) (by first | (simp; done) | (simp; omega) | omega)).mono ?_
                rintro e w2 ⟨rfl, hc2⟩
                have hB2 : Below w.heap.size w w2 := (by repeat (first | exact Below.refl _ _ | apply below_alloc | apply pw_below_drewN | apply below_drew1 | (refine Below.setCell ?_ (by first | (simp; done) | (simp; omega) | omega) _) | (refine below_then ?_ (by first | (simp; done) | (simp; omega) | omega) hc2) | exact hB))
                go_wp2_with fail
                go_ret
                exact ⟨(by first | rfl | (simp; done) | (simp [*]; done) | (rw [if_pos (by omega)]; first | rfl | (simp; done)) | (rw [if_neg (by omega)]; first | rfl | (simp; done)) | (simp; omega)), hB2⟩
            · have hR2 := hR.out
              rw [hbd (fun h => hk6 h.1), if_neg (by decide)] at hR2
              subst hR2
              have hkb : (x.kind != 6) = true := by simp [hk6]
              clear hbd hgd hsp HF
              go_wp2_with fail
              go_ret
              exact ⟨(by first | rfl | (simp; done) | (simp [*]; done) | (rw [if_pos (by omega)]; first | rfl | (simp; done)) | (rw [if_neg (by omega)]; first | rfl | (simp; done)) | (simp; omega)), (by repeat (first | exact Below.refl _ _ | apply below_alloc | apply pw_below_drewN | apply below_drew1 | (refine Below.setCell ?_ (by first | (simp; done) | (simp; omega) | omega) _) | exact hB))⟩
          · obtain rfl : k = es.length := by omega
            rw [spool_end] at hsp
            have hR2 := hR.out
            rw [← hsp, if_pos rfl] at hR2
            have j1 : ¬ (es.length : Int) < (es.length : Int) := by omega
            have HS := Lib.hid (size_calls A c bs (.slice A2 es.length c2) wr ⟨_, _, _, rfl⟩ (Kd.C_below hr hB) htot)
            clear hsp hR
            by_cases hbig : 6000 < stSize bs
            · rw [if_pos hbig] at hR2
              subst hR2
              have hbig' : (6000 : Int) < ((stSize bs : Nat) : Int) := by omega
              go_wp2_with fail
              refine HS.out.mono ?_
              rintro e w2 ⟨rfl, hb2⟩
              go_wp2_with fail
              go_ret
              exact ⟨(by first | rfl | (simp; done) | (simp [*]; done) | (rw [if_pos (by omega)]; first | rfl | (simp; done)) | (rw [if_neg (by omega)]; first | rfl | (simp; done)) | (simp; omega)), hB.trans (hb2.mono hB.size)⟩
            · rw [if_neg hbig] at hR2
              subst hR2
              have hbig' : ¬ (6000 : Int) < ((stSize bs : Nat) : Int) := by omega
              go_wp2_with fail
              refine HS.out.mono ?_
              rintro e w2 ⟨rfl, hb2⟩
              go_wp2_with fail
              go_ret
              exact ⟨(by first | rfl | (simp; done) | (simp [*]; done) | (rw [if_pos (by omega)]; first | rfl | (simp; done)) | (rw [if_neg (by omega)]; first | rfl | (simp; done)) | (simp; omega)), hB.trans (hb2.mono hB.size)⟩
end Go.Proofs.YtijdghplfhfpaaaDoor.H

/- Boxes: box.All. -/
namespace Go.Proofs.YtijdghplfhfpaaaDoor.H
open Go.RowKit Go.Proofs.YtijdghplfhfpaaaDoorW.PrintWords Go.Proofs.YtijdghplfhfpaaaDoorW.PrintLast Go.Proofs.YtijdghplfhfpaaaDoor.U
set_option linter.unusedVariables false
set_option linter.unusedSimpArgs false
theorem fold_form {bs : List ABox} {es l : List AEntry} {k : Nat} (h : k < l.length) (h2 : ¬ entryFault l[k] = 0) : foldE bs es (l.drop k) = (entryFault l[k], [], []) := by
  rw [List.drop_eq_getElem_cons h, foldE, if_pos h2]
theorem fold_fail {bs : List ABox} {es l : List AEntry} {k : Nat} (h : k < l.length) (h2 : entryFault l[k] = 0) (h3 : ¬ (entV bs es l[k]).1 = 0) : foldE bs es (l.drop k) = ((entV bs es l[k]).1, [], []) := by
  rw [List.drop_eq_getElem_cons h, foldE, if_neg (by rw [h2]; decide), if_pos h3]
theorem fold_step {bs : List ABox} {es l : List AEntry} {k : Nat} (h : k < l.length) (h2 : entryFault l[k] = 0) (h3 : (entV bs es l[k]).1 = 0) : foldE bs es (l.drop k) = foldE (entV bs es l[k]).2.1 (entV bs es l[k]).2.2 (l.drop (k + 1)) := by
  rw [List.drop_eq_getElem_cons h, foldE, if_neg (by rw [h2]; decide), if_neg (by rw [h3]; decide)]
theorem fold_end (bs : List ABox) (es l : List AEntry) : foldE bs es (l.drop l.length) = (0, bs, es) := by rw [List.drop_length]; rfl
def PostAll (w : World) (R : Int × List ABox × List AEntry) (e : Ending) (w' : World) : Prop :=
  ∃ vB vS : Value, e = .returned (.tuple #[.agg #[vB, vS], .int .i64 R.1]) ∧ Kd.S kBox 77 w' w.heap.size (fun _ => True) vB R.2.1 ∧ Kd.R kAEntry 40 w' w.heap.size (fun _ => True) vS R.2.2 ∧ Below w.heap.size w w'
set_option maxHeartbeats 2000000 in
set_option maxRecDepth 100000 in
theorem all_calls (A : Option Addr) (c : Nat) (bs : List ABox) (A2 : Option Addr) (c2 : Nat) (es : List AEntry) (Al : Option Addr) (cl : Nat) (l : List AEntry) (m : Int) (w : World) (hr : kBox.C w A bs.length bs) (hc : bs.length ≤ c) (hr2 : Kd.C kAEntry w A2 es.length es) (hs : okSt bs es)
    (hrl : Kd.C kAEntry w Al l.length l) (hsl : ∀ x ∈ l, okE x) (hm : w.cell? ⟨6, 0, none⟩ = some (.int .i64 m)) (hg : 6 < w.heap.size) :
    Calls Tryd.prog 19 #[.agg #[.slice A bs.length c, .slice A2 es.length c2], .slice Al l.length cl] w (PostAll w (allV bs es l)) := by
  have h63 := hrl.2.1
  obtain ⟨W2, hW2⟩ : ∃ W2 : World, W2 = (w.alloc (.cells #[.slice A bs.length c, .slice A2 es.length c2] 25)).alloc (.cells #[.slice none 0 0, .slice none 0 0] 25) := ⟨_, rfl⟩
  have hP0 : Blk W2 w.heap.size [.slice A bs.length c, .slice A2 es.length c2] := by rw [hW2]; exact (Blk.made w _ _).alloc _
  have hQ0 : Blk W2 (w.heap.size + 1) [.slice none 0 0, .slice none 0 0] := by rw [hW2]; exact Blk.made_at _ _ _ (by simp)
  have hB0 : Below w.heap.size w W2 := by rw [hW2]; exact (by repeat (first | exact Below.refl _ _ | apply below_alloc | apply pw_below_drewN | apply below_drew1 | (refine Below.setCell ?_ (by first | (simp; done) | (simp; omega) | omega) _) ))
  have hz0 : W2.heap.size = w.heap.size + 2 := by rw [hW2]; simp
  replace hW2 := Lib.hid hW2
  have p00 := hP0.at 0 _ rfl
  have p01 := hP0.at 1 _ rfl
  have HC := boxCheck_calls A c bs A2 c2 es m W2 (Kd.C_below hr hB0) hc (Kd.C_below hr2 hB0) hs (cell_below hB0 hm hg) (by omega)
  by_cases hf : stFault bs es = 0
  · have hinv := inv_of_ok hs hf
    rw [hf] at HC
    replace HC := Lib.hid HC
    by_cases h10 : 10 < l.length
    · rw [show allV bs es l = (1, [], []) by rw [allV, if_neg (by rw [hf]; decide), if_pos h10]]
      have h10' : (10 : Int) < (l.length : Int) := by omega
      clear hf
      go_enter Tryd.func19, Tryd.ntmps19
      go_wp2_with fail
      rw [← hW2.out]
      refine HC.out.mono ?_
      rintro e w1 ⟨rfl, hb1⟩
      have hz1 := hb1.size
      have hQ1 := hQ0.below hb1 (by omega)
      have hB1 := hB0.trans (hb1.mono (by omega))
      have q0 := (hQ1).at 0 _ rfl
      have q1 := (hQ1).at 1 _ rfl
      have q2 := (hQ1).free 0 _ rfl
      have q3 := (hQ1).free 1 _ rfl
      go_wp2_with fail
      refine bodyPost_ret (v := .tuple #[.agg #[.slice none 0 0, .slice none 0 0], .int .i64 1]) (by simp [results, Tryd.results19, go_sem, *]) rfl ?_
      exact ⟨_, _, rfl, Kd.S_nil _ _ _ _ _, Kd.R_nil _ _ _ _ _, (by repeat (first | exact Below.refl _ _ | apply below_alloc | apply pw_below_drewN | apply below_drew1 | (refine Below.setCell ?_ (by first | (simp; done) | (simp; omega) | omega) _) | exact hB1))⟩
    · rw [show allV bs es l = foldE bs es l by rw [allV, if_neg (by rw [hf]; decide), if_neg h10]]
      have h10' : ¬ (10 : Int) < (l.length : Int) := by omega
      generalize hF : foldE bs es l = F
      replace hF := Lib.hid hF
      clear hf
      have hb30 : ∀ b ∈ bs, b.2.2.length ≤ 1048576 := fun b hb => by have := (hinv.2.2 b hb).2.2.2.1; omega
      have hi1 := hinv.1
      have hi2 := hinv.2.1
      have HO := Lib.hid (fun W h1 h2 => own_calls A c bs A2 c2 es W h1 h2 (by omega) (by omega) hb30)
      go_enter Tryd.func19, Tryd.ntmps19
      go_wp2_with fail
      rw [← hW2.out]
      refine HC.out.mono ?_
      rintro e w1 ⟨rfl, hb1⟩
      have hz1 := hb1.size
      have hP1 := hP0.below hb1 (by omega)
      have hQ1 := hQ0.below hb1 (by omega)
      have hB1 := hB0.trans (hb1.mono (by omega))
      have p10 := hP1.at 0 _ rfl
      have p11 := hP1.at 1 _ rfl
      clear hP0 hQ0 hB0 p00 p01 hb1
      go_wp2_with fail
      refine (HO.out _ (Kd.C_below hr hB1) (Kd.C_below hr2 hB1)).mono ?_
      rintro e w3 ⟨vB, vS, rfl, hS3, hE3, hb3⟩
      obtain ⟨Ab, cb, rfl⟩ := Kd.S_slice hS3
      obtain ⟨As, cs, rfl⟩ := Kd.R_slice hE3
      have hz3 := hb3.size
      obtain ⟨W4, hW4⟩ : ∃ W4 : World, W4 = w3.alloc (.cells #[.slice Ab bs.length cb, .slice As es.length cs] 25) := ⟨_, rfl⟩
      have hQ4 : Blk W4 (w.heap.size + 1) [.slice none 0 0, .slice none 0 0] := by rw [hW4]; exact (hQ1.below hb3 (by omega)).alloc _
      have hO4 : Blk W4 w3.heap.size [.slice Ab bs.length cb, .slice As es.length cs] := by rw [hW4]; exact Blk.made _ _ _
      have hB4 : Below w.heap.size w W4 := by rw [hW4]; exact below_alloc' (hB1.trans (hb3.mono (by omega))) (by omega) _
      have hS4 : Kd.S kBox 77 W4 w1.heap.size (fun k => k ≠ w3.heap.size) (.slice Ab bs.length cb) bs := by rw [hW4]; exact Kd.S_mono (Kd.S_below (Kd.S_bound hS3) (by repeat (first | exact Below.refl _ _ | apply below_alloc | apply pw_below_drewN | apply below_drew1 | (refine Below.setCell ?_ (by first | (simp; done) | (simp; omega) | omega) _) ))) (fun k hk => by have := hk.2.2.1; omega)
      have hE4 : Kd.R kAEntry 40 W4 w1.heap.size (fun k => k ≠ w3.heap.size) (.slice As es.length cs) es := by rw [hW4]; exact Kd.R_mono (Kd.R_below (Kd.R_bound hE3) (by repeat (first | exact Below.refl _ _ | apply below_alloc | apply pw_below_drewN | apply below_drew1 | (refine Below.setCell ?_ (by first | (simp; done) | (simp; omega) | omega) _) ))) (fun k hk => by have := hk.2.2.1; omega)
      have hst4 : StB W4 w1.heap.size w3.heap.size bs es := ⟨_, _, hO4, by omega, hS4, hE4⟩
      have hz4 : W4.heap.size = w3.heap.size + 1 := by rw [hW4]; simp
      replace hW4 := Lib.hid hW4
      clear hP1 hQ1 hB1 p10 p11 hb3 hS3 hE3 hO4 hS4 hE4
      go_wp2_with fail
      rw [← hW4.out]
      go_loopw [26] (fun i wr => ∃ (k : Nat) (bs' : List ABox) (es' : List AEntry), k ≤ l.length ∧ i = .int .i64 k ∧ foldE bs' es' (l.drop k) = F ∧ InvS bs' es' ∧ StB wr w1.heap.size w3.heap.size bs' es' ∧ Blk wr (w.heap.size + 1) [.slice none 0 0, .slice none 0 0] ∧ Below w.heap.size w wr) (fun i _ => l.length - (intOf i).toNat)
      case atStart => exact ⟨0, bs, es, Nat.zero_le _, rfl, hF.out, hinv, hst4, hQ4, hB4⟩
      case round =>
        clear hF hst4 hQ4 hB4 hinv hi1 hi2
        obtain ⟨k, bs', es', hk, rfl, hF, hinv, hst, hQ, hB⟩ := hrel
        have hzr := hst.lt
        have hqr := hQ.lt
        by_cases hlt : k < l.length
        · obtain ⟨ad, e1, hx0, hxj⟩ := flat_at (Kd.C_below hrl hB) k hlt
          subst e1
          have q0 := hx0 _ rfl; have q1 := hxj 1 _ (by decide) rfl; have q2 := hxj 2 _ (by decide) rfl; have q3 := hxj 3 _ (by decide) rfl; have q4 := hxj 4 _ (by decide) rfl; have q5 := hxj 5 _ (by decide) rfl
          clear hx0 hxj
          obtain ⟨s1, s2, s3⟩ := hsl _ (List.getElem_mem hlt)
          have i0 : (0 : Int) ≤ (k : Int) := by omega
          have i1 : (k : Int) < (l.length : Int) := by omega
          have hff := fun h => fold_form (bs := bs') (es := es') hlt h
          have hfl := fun h h2 => fold_fail (bs := bs') (es := es') hlt h h2
          have hfs := fun h h2 => fold_step (bs := bs') (es := es') hlt h h2
          rw [hF] at hff hfl hfs
          clear hF
          generalize l[k] = x at *
          obtain ⟨Wx, hWx⟩ : ∃ Wx : World, Wx = wr.alloc (.cells #[.int .i64 x.kind, .string x.box, .int .i64 x.uid, .int .i64 x.flags, .string x.to_, .string x.text] 40) := ⟨_, rfl⟩
          have hX : Blk Wx wr.heap.size [.int .i64 x.kind, .string x.box, .int .i64 x.uid, .int .i64 x.flags, .string x.to_, .string x.text] := by rw [hWx]; exact Blk.made _ _ _
          have hbx : Below wr.heap.size wr Wx := by rw [hWx]; exact (by repeat (first | exact Below.refl _ _ | apply below_alloc | apply pw_below_drewN | apply below_drew1 | (refine Below.setCell ?_ (by first | (simp; done) | (simp; omega) | omega) _) ))
          have hstx := hst.new hbx
          have hQx := hQ.below hbx (by omega)
          have hBx := hB.trans (hbx.mono (by omega))
          have hzx : Wx.heap.size = wr.heap.size + 1 := by rw [hWx]; simp
          replace hWx := Lib.hid hWx
          have HF := form_calls x m Wx s1 s2 s3 (cell_below hBx hm hg) (by omega)
          by_cases hxf : entryFault x = 0
          · rw [hxf] at HF
            replace HF := Lib.hid HF
            have HA := fun W h => apply_calls w3.heap.size x w1.heap.size bs' es' W h hinv hxf
            have hinv2 := inv_ent hinv hxf
            by_cases hen : (entV bs' es' x).1 = 0
            · have hF2 := hfs hxf hen
              rw [hen] at HA
              generalize (entV bs' es' x).2.1 = bs2 at *
              generalize (entV bs' es' x).2.2 = es2 at *
              replace HA := Lib.hid HA
              replace hF2 := Lib.hid hF2.symm
              clear hff hfl hfs hen hxf
              go_wp2_with fail
              rw [← hWx.out]
              refine HF.out.mono ?_
              rintro e w5 ⟨rfl, hb5⟩
              have hst5 := hstx.new hb5
              have hQ5 := hQx.below hb5 (by omega)
              have hB5 := hBx.trans (hb5.mono (by omega))
              have hX5 := hX.below hb5 (by omega)
              have x0 := hX5.at 0 _ rfl
              have x1 := hX5.at 1 _ rfl
              have x2 := hX5.at 2 _ rfl
              have x3 := hX5.at 3 _ rfl
              have x4 := hX5.at 4 _ rfl
              have x5 := hX5.at 5 _ rfl
              go_wp2_with fail
              refine (HA.out _ hst5).mono ?_
              rintro e w6 ⟨rfl, hst6, hb6⟩
              go_wp2_with fail
              go_roundw
              case rel => exact ⟨k + 1, bs2, es2, hlt, by go_num, hF2.out, hinv2, hst6, hQ5.below hb6 (by omega), hB5.trans (hb6.mono (by omega))⟩
              case measure => simp [intOf]; omega
            · have hF2 := hfl hxf hen
              subst hF2
              generalize (entV bs' es' x).1 = f at *
              generalize (entV bs' es' x).2.1 = bs2 at *
              generalize (entV bs' es' x).2.2 = es2 at *
              have hfb : (f != 0) = true := by simp [hen]
              replace HA := Lib.hid HA
              clear hff hfs hen hxf hfl
              go_wp2_with fail
              rw [← hWx.out]
              refine HF.out.mono ?_
              rintro e w5 ⟨rfl, hb5⟩
              have hst5 := hstx.new hb5
              have hQ5 := hQx.below hb5 (by omega)
              have hB5 := hBx.trans (hb5.mono (by omega))
              have hX5 := hX.below hb5 (by omega)
              have x0 := hX5.at 0 _ rfl
              have x1 := hX5.at 1 _ rfl
              have x2 := hX5.at 2 _ rfl
              have x3 := hX5.at 3 _ rfl
              have x4 := hX5.at 4 _ rfl
              have x5 := hX5.at 5 _ rfl
              go_wp2_with fail
              refine (HA.out _ hst5).mono ?_
              rintro e w6 ⟨rfl, hst6, hb6⟩
              have hQ6 := hQ5.below hb6 (by omega)
              have hB6 := hB5.trans (hb6.mono (by omega))
              clear x0 x1 x2 x3 x4 x5
              have q0 := (hQ6).at 0 _ rfl
              have q1 := (hQ6).at 1 _ rfl
              have q2 := (hQ6).free 0 _ rfl
              have q3 := (hQ6).free 1 _ rfl
              go_wp2_with fail
              refine bodyPost_ret (v := .tuple #[.agg #[.slice none 0 0, .slice none 0 0], .int .i64 f]) (by simp [results, Tryd.results19, go_sem, *]) rfl ?_
              exact ⟨_, _, rfl, Kd.S_nil _ _ _ _ _, Kd.R_nil _ _ _ _ _, (by repeat (first | exact Below.refl _ _ | apply below_alloc | apply pw_below_drewN | apply below_drew1 | (refine Below.setCell ?_ (by first | (simp; done) | (simp; omega) | omega) _) | exact hB6))⟩
          · have hF2 := hff hxf
            subst hF2
            generalize entryFault x = f at *
            have hfb : (f != 0) = true := by simp [hxf]
            replace HF := Lib.hid HF
            clear hff hfs hxf hfl
            go_wp2_with fail
            rw [← hWx.out]
            refine HF.out.mono ?_
            rintro e w5 ⟨rfl, hb5⟩
            have hQ5 := hQx.below hb5 (by omega)
            have hB5 := hBx.trans (hb5.mono (by omega))
            have q0 := (hQ5).at 0 _ rfl
            have q1 := (hQ5).at 1 _ rfl
            have q2 := (hQ5).free 0 _ rfl
            have q3 := (hQ5).free 1 _ rfl
            go_wp2_with fail
            refine bodyPost_ret (v := .tuple #[.agg #[.slice none 0 0, .slice none 0 0], .int .i64 f]) (by simp [results, Tryd.results19, go_sem, *]) rfl ?_
            exact ⟨_, _, rfl, Kd.S_nil _ _ _ _ _, Kd.R_nil _ _ _ _ _, (by repeat (first | exact Below.refl _ _ | apply below_alloc | apply pw_below_drewN | apply below_drew1 | (refine Below.setCell ?_ (by first | (simp; done) | (simp; omega) | omega) _) | exact hB5))⟩
        · obtain rfl : k = l.length := by omega
          rw [fold_end] at hF
          subst hF
          have i1 : ¬ (l.length : Int) < (l.length : Int) := by omega
          obtain ⟨vB, vS, hk, hp, hS, hE⟩ := hst
          obtain ⟨Ab2, cb2, rfl, hcb2, hCb2⟩ := Kd.S_reads hS
          obtain ⟨As2, cs2, rfl, hcs2, hCs2⟩ := Kd.R_reads hE
          have k0 := hk.at 0 _ rfl
          have k1 := hk.at 1 _ rfl
          have HO2 := Lib.hid (own_calls Ab2 cb2 bs' As2 cs2 es' wr hCb2 hCs2 (by have := hinv.1; omega) (by have := hinv.2.1; omega) (fun b hb => by have := (hinv.2.2 b hb).2.2.2.1; omega))
          go_wp2_with fail
          refine HO2.out.mono ?_
          rintro e w5 ⟨vB5, vS5, rfl, hS5, hE5, hb5⟩
          obtain ⟨A5, c5, rfl⟩ := Kd.S_slice hS5
          obtain ⟨A6, c6, rfl⟩ := Kd.R_slice hE5
          have hz5 := hb5.size
          have hQ5 := hQ.below hb5 (by omega)
          have hB5 := hB.trans (hb5.mono (by omega))
          have q0 := hQ5.at 0 _ rfl
          have q1 := hQ5.at 1 _ rfl
          have q2 := hQ5.free 0 _ rfl
          have q3 := hQ5.free 1 _ rfl
          go_wp2_with fail
          refine bodyPost_ret (v := .tuple #[.agg #[.slice A5 bs'.length c5, .slice A6 es'.length c6], .int .i64 0]) (by simp [results, Tryd.results19, go_sem, *]) rfl ?_
          refine ⟨_, _, rfl, ?_, ?_, (by repeat (first | exact Below.refl _ _ | apply below_alloc | apply pw_below_drewN | apply below_drew1 | (refine Below.setCell ?_ (by first | (simp; done) | (simp; omega) | omega) _) | exact hB5))⟩
          · exact Kd.S_lower (S_elder (S_elder hS5 (show w.heap.size + 1 < wr.heap.size by omega) _) (show w.heap.size + 1 < wr.heap.size by omega) _) (by omega)
          · exact Kd.R_lower (R_elder (R_elder hE5 (show w.heap.size + 1 < wr.heap.size by omega) _) (show w.heap.size + 1 < wr.heap.size by omega) _) (by omega)
  · rw [show allV bs es l = (stFault bs es, [], []) by rw [allV, if_pos hf]]
    generalize stFault bs es = f at *
    have hfb : (f != 0) = true := by simp [hf]
    replace HC := Lib.hid HC
    clear hf
    go_enter Tryd.func19, Tryd.ntmps19
    go_wp2_with fail
    rw [← hW2.out]
    refine HC.out.mono ?_
    rintro e w1 ⟨rfl, hb1⟩
    have hz1 := hb1.size
    have hQ1 := hQ0.below hb1 (by omega)
    have hB1 := hB0.trans (hb1.mono (by omega))
    have q0 := (hQ1).at 0 _ rfl
    have q1 := (hQ1).at 1 _ rfl
    have q2 := (hQ1).free 0 _ rfl
    have q3 := (hQ1).free 1 _ rfl
    go_wp2_with fail
    refine bodyPost_ret (v := .tuple #[.agg #[.slice none 0 0, .slice none 0 0], .int .i64 f]) (by simp [results, Tryd.results19, go_sem, *]) rfl ?_
    exact ⟨_, _, rfl, Kd.S_nil _ _ _ _ _, Kd.R_nil _ _ _ _ _, (by repeat (first | exact Below.refl _ _ | apply below_alloc | apply pw_below_drewN | apply below_drew1 | (refine Below.setCell ?_ (by first | (simp; done) | (simp; omega) | omega) _) | exact hB1))⟩
end Go.Proofs.YtijdghplfhfpaaaDoor.H

/- Boxes: the reference's StateFault: the walk. -/
namespace Go.Proofs.YtijdghplfhfpaaaDoor.H
open Go.RowKit Go.Proofs.YtijdghplfhfpaaaDoorW.PrintWords Go.Proofs.YtijdghplfhfpaaaDoorW.PrintLast Go.Proofs.YtijdghplfhfpaaaDoor.U
set_option linter.unusedVariables false
set_option linter.unusedSimpArgs false
set_option maxHeartbeats 2000000 in
set_option maxRecDepth 100000 in
theorem stateFault_calls (A : Option Addr) (c : Nat) (bs : List ABox) (A2 : Option Addr) (c2 : Nat) (es : List AEntry) (w : World) (hr : kBox.C w A bs.length bs) (hc : bs.length ≤ c) (hr2 : Kd.C kAEntry w A2 es.length es) (hs : okSt bs es) :
    Calls Tryd.prog 15 #[.agg #[.slice A bs.length c, .slice A2 es.length c2]] w fun e w' => e = .returned (.int .i64 (stFault bs es)) ∧ Below w.heap.size w w' := by
  have h63 := hr.2.1
  have h64 := hr2.2.1
  by_cases hlen : 5 < bs.length ∨ 20 < es.length
  · rw [stFault, if_pos hlen]
    by_cases h1 : 5 < bs.length
    · have h1' : (5 : Int) < (bs.length : Int) := by omega
      go_enter Tryd.func15, Tryd.ntmps15
      go_wp2_with fail
      go_ret
      exact ⟨(by first | rfl | (simp; done) | (simp [*]; done) | (rw [if_pos (by omega)]; first | rfl | (simp; done)) | (rw [if_neg (by omega)]; first | rfl | (simp; done)) | (simp; omega)), (by repeat (first | exact Below.refl _ _ | apply below_alloc | apply pw_below_drewN | apply below_drew1 | (refine Below.setCell ?_ (by first | (simp; done) | (simp; omega) | omega) _) ))⟩
    · have h1' : ¬ (5 : Int) < (bs.length : Int) := by omega
      have h2' : (20 : Int) < (es.length : Int) := by omega
      go_enter Tryd.func15, Tryd.ntmps15
      go_wp2_with fail
      go_ret
      exact ⟨(by first | rfl | (simp; done) | (simp [*]; done) | (rw [if_pos (by omega)]; first | rfl | (simp; done)) | (rw [if_neg (by omega)]; first | rfl | (simp; done)) | (simp; omega)), (by repeat (first | exact Below.refl _ _ | apply below_alloc | apply pw_below_drewN | apply below_drew1 | (refine Below.setCell ?_ (by first | (simp; done) | (simp; omega) | omega) _) ))⟩
  · rw [stFault, if_neg hlen]
    have h1' : ¬ (5 : Int) < (bs.length : Int) := by omega
    have h2' : ¬ (20 : Int) < (es.length : Int) := by omega
    have hl5 : bs.length ≤ 5 := by omega
    generalize hR : stTail bs es = R
    have hk0 := Blk.made w #[.slice A bs.length c, .slice A2 es.length c2] 25
    have hB0 : Below w.heap.size w (w.alloc (.cells #[.slice A bs.length c, .slice A2 es.length c2] 25)) := (by repeat (first | exact Below.refl _ _ | apply below_alloc | apply pw_below_drewN | apply below_drew1 | (refine Below.setCell ?_ (by first | (simp; done) | (simp; omega) | omega) _) ))
    clear hlen
    go_enter Tryd.func15, Tryd.ntmps15
    go_wp2_with fail
    go_loopw [3] (fun i wr => ∃ k : Nat, k ≤ bs.length ∧ i = .int .i64 k ∧ (boxesFrom bs k = true → boxesFrom bs 0 = true) ∧ (boxesFrom bs k = false → R = 11) ∧ Blk wr w.heap.size [.slice A bs.length c, .slice A2 es.length c2] ∧ Below w.heap.size w wr) (fun i _ => bs.length - (intOf i).toNat)
    case atStart => exact ⟨0, Nat.zero_le _, rfl, id, (fun h => by rw [← hR, stTail, if_neg (by rw [h]; decide)]), hk0, hB0⟩
    case round =>
      clear hk0 hB0
      obtain ⟨k, hk, rfl, hyes, hno, hblk, hB⟩ := hrel
      have hz := hblk.lt
      have b0 := hblk.at 0 _ rfl
      by_cases hlt : k < bs.length
      · obtain ⟨ad, Ae, ce, e1, x0, x1, x2, hC⟩ := box_at (Kd.C_below hr hB) k hlt
        subst e1
        rw [add1] at x1
        rw [add2] at x2
        have i0 : (0 : Int) ≤ (k : Int) := by omega
        have i1 : (k : Int) < (bs.length : Int) := by omega
        have hsz := hs.1 _ (List.getElem_mem hlt)
        have hbd := fun h => boxes_bad hlt h
        have hgd := fun h h2 => boxes_good hlt h h2
        obtain ⟨nm, nx, l, hbk⟩ : ∃ nm nx l, bs[k] = (nm, nx, l) := ⟨_, _, _, rfl⟩
        rw [hbk] at x0 x1 x2 hC hsz hbd hgd
        simp only at x0 x1 x2 hC hsz hbd hgd
        clear hbk
        have htk : (bs.take k).length = k := by rw [List.length_take]; omega
        have HF := fun w hr' => boxOf_calls (some ad) c (bs.take k) nm w hr'
        rw [htk] at HF
        have HN := fun w => boxName_calls nm w (by omega)
        have hl3 := hC.2.1
        have i2 : (k : Int) ≤ (c : Int) := by omega
        have hCq := C_pre (Kd.C_below hr (show Below w.heap.size w (wr.alloc (.cells #[.string nm, .int .i64 nx, .slice Ae l.length ce] 77)) from (by repeat (first | exact Below.refl _ _ | apply below_alloc | apply pw_below_drewN | apply below_drew1 | (refine Below.setCell ?_ (by first | (simp; done) | (simp; omega) | omega) _) | exact hB)))) k hk
        generalize findG nm (bs.take k) 0 = fi at *
        replace HF := Lib.hid HF
        by_cases hn : nameFault nm = 0
        · rw [hn] at HN
          replace HN := Lib.hid HN
          by_cases hfi : fi < 0
          · by_cases hx1 : nx < 1 ∨ 1048577 < nx
            · have hR11 := hno (hbd (fun h => by have := h.1; unfold boxOk at this; rw [if_pos (by rcases hx1 with h | h; exact .inr (.inl h); exact .inr (.inr (.inl h)))] at this; cases this))
              subst hR11
              have hfi' : ¬ 0 ≤ fi := by omega
              clear hbd hgd hyes hno hn
              go_wp2_with fail
              go_quiet ((first | (go_at_call 50; exact quiet_eq (HN.out _)) | (go_at_call 51; exact quiet_eq (HF.out _ (Kd.C_below hCq (by first | exact Below.refl _ _ | exact pw_below_drewN (Below.refl _ _) _)))) | (go_at_call 52; first | exact quiet_eq (in_yes _ _ _ _ (by omega) (by omega)) | exact quiet_eq (in_no _ _ _ _ (by omega)))))
              go_wp2_with fail
              go_ret
              exact ⟨(by first | rfl | (simp; done) | (simp [*]; done) | (rw [if_pos (by omega)]; first | rfl | (simp; done)) | (rw [if_neg (by omega)]; first | rfl | (simp; done)) | (simp; omega)), (by repeat (first | exact Below.refl _ _ | apply below_alloc | apply pw_below_drewN | apply below_drew1 | (refine Below.setCell ?_ (by first | (simp; done) | (simp; omega) | omega) _) | exact hB))⟩
            · have hfi' : ¬ 0 ≤ fi := by omega
              by_cases hl30 : 30 < l.length
              · have hR11 := hno (hbd (fun h => by have := h.1; unfold boxOk at this; rw [if_pos (.inr (.inr (.inr hl30)))] at this; cases this))
                subst hR11
                have hl30' : (30 : Int) < (l.length : Int) := by omega
                clear hbd hgd hyes hno hn
                go_wp2_with fail
                go_quiet ((first | (go_at_call 50; exact quiet_eq (HN.out _)) | (go_at_call 51; exact quiet_eq (HF.out _ (Kd.C_below hCq (by first | exact Below.refl _ _ | exact pw_below_drewN (Below.refl _ _) _)))) | (go_at_call 52; first | exact quiet_eq (in_yes _ _ _ _ (by omega) (by omega)) | exact quiet_eq (in_no _ _ _ _ (by omega)))))
                go_wp2_with fail
                go_ret
                exact ⟨(by first | rfl | (simp; done) | (simp [*]; done) | (rw [if_pos (by omega)]; first | rfl | (simp; done)) | (rw [if_neg (by omega)]; first | rfl | (simp; done)) | (simp; omega)), (by repeat (first | exact Below.refl _ _ | apply below_alloc | apply pw_below_drewN | apply below_drew1 | (refine Below.setCell ?_ (by first | (simp; done) | (simp; omega) | omega) _) | exact hB))⟩
              · have hl30' : ¬ (30 : Int) < (l.length : Int) := by omega
                have hbo : boxOk (nm, nx, l) = mailsOk nx 0 l := by
                  unfold boxOk
                  rw [if_neg (by intro h; rcases h with h | h | h | h; exact h hn; exact hx1 (.inl h); exact hx1 (.inr h); exact hl30 h)]
                rw [hbo] at hbd hgd
                clear hbo hn
                have hbdh := Lib.hid (fun (h : mailsOk nx 0 l = false) => hno (hbd (fun h2 => by rw [h] at h2; cases h2.1)))
                have hgdh := Lib.hid (fun (h : mailsOk nx 0 l = true) => hgd h hfi)
                replace hyes := Lib.hid hyes
                replace hno := Lib.hid hno
                clear hbd hgd
                go_wp2_with fail
                go_quiet ((first | (go_at_call 50; exact quiet_eq (HN.out _)) | (go_at_call 51; exact quiet_eq (HF.out _ (Kd.C_below hCq (by first | exact Below.refl _ _ | exact pw_below_drewN (Below.refl _ _) _)))) | (go_at_call 52; first | exact quiet_eq (in_yes _ _ _ _ (by omega) (by omega)) | exact quiet_eq (in_no _ _ _ _ (by omega)))))
                obtain ⟨Wq, hWq⟩ : ∃ Wq : World, Wq = (wr.alloc (.cells #[.string nm, .int .i64 nx, .slice Ae l.length ce] 77)).drewN nq := ⟨_, rfl⟩
                have hbx : Below wr.heap.size wr Wq := by rw [hWq]; exact (by repeat (first | exact Below.refl _ _ | apply below_alloc | apply pw_below_drewN | apply below_drew1 | (refine Below.setCell ?_ (by first | (simp; done) | (simp; omega) | omega) _) ))
                have hX : Blk Wq wr.heap.size [.string nm, .int .i64 nx, .slice Ae l.length ce] := by rw [hWq]; exact (Blk.made wr _ _).below (show Below (wr.heap.size + 1) _ _ from (by repeat (first | exact Below.refl _ _ | apply below_alloc | apply pw_below_drewN | apply below_drew1 | (refine Below.setCell ?_ (by first | (simp; done) | (simp; omega) | omega) _) ))) (Nat.lt_succ_self _)
                have hblkq := hblk.below hbx hz
                have hBq := hB.trans (hbx.mono (by omega))
                have hCl := Kd.C_below hC hbx
                rw [← hWq]
                replace hWq := Lib.hid hWq
                have hzx := hX.lt
                clear hblk b0 x0 x1 x2 hC hCq
                obtain ⟨W0, hW0⟩ : ∃ W0 : World, W0 = wr := ⟨_, rfl⟩
                generalize wr.heap.size = bb at *
                go_wp2_with fail
                go_loopw [5] (fun i wz => ∃ (j : Nat) (last : Int), j ≤ l.length ∧ i = .int .i64 j ∧ mailsOk nx last (l.drop j) = mailsOk nx 0 l ∧ 0 ≤ last ∧ (j = 0 → last = 0) ∧ (∀ (h : 0 < j) (h2 : j - 1 < l.length), last = l[j - 1].uid) ∧ Blk wz bb [.string nm, .int .i64 nx, .slice Ae l.length ce] ∧ Blk wz w.heap.size [.slice (some ad) bs.length c, .slice A2 es.length c2] ∧ Below Wq.heap.size Wq wz) (fun i _ => l.length - (intOf i).toNat)
                case atStart => exact ⟨0, 0, Nat.zero_le _, rfl, rfl, Int.le_refl _, fun _ => rfl, fun h => absurd h (Nat.lt_irrefl _), hX, hblkq, Below.refl _ _⟩
                case round =>
                  obtain ⟨j, last, hj, rfl, hmo, hl0, hj0, hjp, hXz, hblkz, hBz⟩ := hrel
                  clear hX hblkq
                  have hBzz := hBq.trans (hBz.mono (by omega))
                  have bx1 := hXz.at 1 _ rfl
                  have bx2 := hXz.at 2 _ rfl
                  by_cases hlj : j < l.length
                  · obtain ⟨ad2, e2, hx0, hxj⟩ := flat_at (Kd.C_below hCl hBz) j hlj
                    subst e2
                    have q0 := hx0 _ rfl; have q1 := hxj 1 _ (by decide) rfl; have q2 := hxj 2 _ (by decide) rfl
                    clear hx0 hxj
                    have hbd2 := fun h => mails_bad (next := nx) (last := last) hlj h
                    have hgd2 := fun h => mails_good (next := nx) (last := last) hlj h
                    rw [hmo] at hbd2 hgd2
                    clear hmo
                    have j0 : (0 : Int) ≤ (j : Int) := by omega
                    have j1 : (j : Int) < (l.length : Int) := by omega
                    have hzz := hXz.lt
                    have wn : IntKind.i64.wrap (nx - 1) = nx - 1 := by rw [IntKind.wrap_i64]; omega
                    rcases Nat.eq_zero_or_pos j with hjz | hjz
                    · have hl00 := hj0 hjz
                      subst hl00
                      have jz : decide (0 < j) = false := decide_eq_false (by omega)
                      clear hjp hj0
                      replace hjz := Lib.hid hjz
                      generalize hlx : l[j] = x at *
                      replace hlx := Lib.hid hlx
                      by_cases g1 : x.uid ≤ 0
                      · have hR11 := hbdh.out (hbd2 (.inl g1))
                        subst hR11
                        clear hbd2 hgd2
                        go_wp2_with fail
                        go_quiet ((go_at_call 52; first | exact quiet_eq (in_yes _ _ _ _ (by omega) (by omega)) | exact quiet_eq (in_no _ _ _ _ (by omega))))
                        go_wp2_with fail
                        go_ret
                        exact ⟨(by first | rfl | (simp; done) | (simp [*]; done) | (rw [if_pos (by omega)]; first | rfl | (simp; done)) | (rw [if_neg (by omega)]; first | rfl | (simp; done)) | (simp; omega)), (by repeat (first | exact Below.refl _ _ | apply below_alloc | apply pw_below_drewN | apply below_drew1 | (refine Below.setCell ?_ (by first | (simp; done) | (simp; omega) | omega) _) | exact hBzz))⟩
                      · by_cases g2 : nx ≤ x.uid
                        · have hR11 := hbdh.out (hbd2 (.inr (.inl g2)))
                          subst hR11
                          clear hbd2 hgd2
                          go_wp2_with fail
                          go_quiet ((go_at_call 52; first | exact quiet_eq (in_yes _ _ _ _ (by omega) (by omega)) | exact quiet_eq (in_no _ _ _ _ (by omega))))
                          go_wp2_with fail
                          go_ret
                          exact ⟨(by first | rfl | (simp; done) | (simp [*]; done) | (rw [if_pos (by omega)]; first | rfl | (simp; done)) | (rw [if_neg (by omega)]; first | rfl | (simp; done)) | (simp; omega)), (by repeat (first | exact Below.refl _ _ | apply below_alloc | apply pw_below_drewN | apply below_drew1 | (refine Below.setCell ?_ (by first | (simp; done) | (simp; omega) | omega) _) | exact hBzz))⟩
                        · by_cases g3 : x.flags < 0
                          · have hR11 := hbdh.out (hbd2 (.inr (.inr (.inl g3))))
                            subst hR11
                            clear hbd2 hgd2
                            go_wp2_with fail
                            go_quiet ((go_at_call 52; first | exact quiet_eq (in_yes _ _ _ _ (by omega) (by omega)) | exact quiet_eq (in_no _ _ _ _ (by omega))))
                            go_wp2_with fail
                            go_ret
                            exact ⟨(by first | rfl | (simp; done) | (simp [*]; done) | (rw [if_pos (by omega)]; first | rfl | (simp; done)) | (rw [if_neg (by omega)]; first | rfl | (simp; done)) | (simp; omega)), (by repeat (first | exact Below.refl _ _ | apply below_alloc | apply pw_below_drewN | apply below_drew1 | (refine Below.setCell ?_ (by first | (simp; done) | (simp; omega) | omega) _) | exact hBzz))⟩
                          · by_cases g4 : 31 < x.flags
                            · have hR11 := hbdh.out (hbd2 (.inr (.inr (.inr (.inl g4)))))
                              subst hR11
                              clear hbd2 hgd2
                              go_wp2_with fail
                              go_quiet ((go_at_call 52; first | exact quiet_eq (in_yes _ _ _ _ (by omega) (by omega)) | exact quiet_eq (in_no _ _ _ _ (by omega))))
                              go_wp2_with fail
                              go_ret
                              exact ⟨(by first | rfl | (simp; done) | (simp [*]; done) | (rw [if_pos (by omega)]; first | rfl | (simp; done)) | (rw [if_neg (by omega)]; first | rfl | (simp; done)) | (simp; omega)), (by repeat (first | exact Below.refl _ _ | apply below_alloc | apply pw_below_drewN | apply below_drew1 | (refine Below.setCell ?_ (by first | (simp; done) | (simp; omega) | omega) _) | exact hBzz))⟩
                            · by_cases g5 : 2000 < x.text.size
                              · have g5' : (2000 : Int) < (x.text.size : Int) := by omega
                                have hR11 := hbdh.out (hbd2 (.inr (.inr (.inr (.inr g5)))))
                                subst hR11
                                clear hbd2 hgd2
                                go_wp2_with fail
                                go_quiet ((go_at_call 52; first | exact quiet_eq (in_yes _ _ _ _ (by omega) (by omega)) | exact quiet_eq (in_no _ _ _ _ (by omega))))
                                go_wp2_with fail
                                go_ret
                                exact ⟨(by first | rfl | (simp; done) | (simp [*]; done) | (rw [if_pos (by omega)]; first | rfl | (simp; done)) | (rw [if_neg (by omega)]; first | rfl | (simp; done)) | (simp; omega)), (by repeat (first | exact Below.refl _ _ | apply below_alloc | apply pw_below_drewN | apply below_drew1 | (refine Below.setCell ?_ (by first | (simp; done) | (simp; omega) | omega) _) | exact hBzz))⟩
                              · have g5' : ¬ (2000 : Int) < (x.text.size : Int) := by omega
                                have hn2 := Lib.hid (hgd2 (by intro h; rcases h with h | h | h | h | h <;> omega))
                                clear hbd2 hgd2
                                go_wp2_with fail
                                go_quiet ((go_at_call 52; first | exact quiet_eq (in_yes _ _ _ _ (by omega) (by omega)) | exact quiet_eq (in_no _ _ _ _ (by omega))))
                                go_wp2_with fail
                                go_roundw
                                case rel => exact ⟨j + 1, x.uid, hlj, by go_num, by rw [← hn2.out], by omega, fun h => by omega, fun h h2 => by simp only [Nat.add_sub_cancel]; rw [hlx.out], hXz.below (show Below wr.heap.size wr _ from (by repeat (first | exact Below.refl _ _ | apply below_alloc | apply pw_below_drewN | apply below_drew1 | (refine Below.setCell ?_ (by first | (simp; done) | (simp; omega) | omega) _) ))) (by omega), hblkz.below (show Below wr.heap.size wr _ from (by repeat (first | exact Below.refl _ _ | apply below_alloc | apply pw_below_drewN | apply below_drew1 | (refine Below.setCell ?_ (by first | (simp; done) | (simp; omega) | omega) _) ))) (by omega), Below.trans hBz (Below.mono (show Below wr.heap.size wr _ from (by repeat (first | exact Below.refl _ _ | apply below_alloc | apply pw_below_drewN | apply below_drew1 | (refine Below.setCell ?_ (by first | (simp; done) | (simp; omega) | omega) _) ))) hBz.size)⟩
                                case measure => simp [intOf]; omega
                    · obtain ⟨i, rfl⟩ : ∃ i, j = i + 1 := ⟨j - 1, by omega⟩
                      have hlast := hjp hjz (by omega)
                      simp only [Nat.add_sub_cancel] at hlast
                      obtain ⟨ad3, e3, hx0, hxj⟩ := flat_at (Kd.C_below hCl hBz) i (by omega)
                      obtain rfl := Option.some.inj e3
                      have r0 := hx0 _ rfl; have r1 := hxj 1 _ (by decide) rfl; have r2 := hxj 2 _ (by decide) rfl
                      clear hx0 hxj
                      rw [← hlast] at r0
                      clear r1 r2
                      have ji : i < l.length := by omega
                      have jz : decide (0 < i + 1) = true := decide_eq_true (by omega)
                      have jz2 : (0 : Int) < (i : Int) + 1 := by omega
                      have jo : (0 : Int) ≤ (i : Int) := by omega
                      have jp : (i : Int) < (l.length : Int) := by omega
                      have jq : (0 : Int) ≤ (i : Int) + 1 := by omega
                      have jr : (i : Int) + 1 < (l.length : Int) := by omega
                      have jw : IntKind.i64.wrap (i : Int) = (i : Int) := by rw [IntKind.wrap_i64]; omega
                      clear hjp hj0 hlast
                      generalize hlx : l[i + 1] = x at *
                      replace hlx := Lib.hid hlx
                      have r0a := cell_alloc' r0 (.cells #[.int .i64 x.uid, .int .i64 x.flags, .string x.text] 84)
                      by_cases g1 : x.uid < 1
                      · have hR11 := hbdh.out (hbd2 (.inl (by omega)))
                        subst hR11
                        clear hbd2 hgd2
                        go_wp2_with fail
                        go_quiet ((go_at_call 52; first | exact quiet_eq (in_yes _ _ _ _ (by omega) (by omega)) | exact quiet_eq (in_no _ _ _ _ (by omega))))
                        go_wp2_with fail
                        go_ret
                        exact ⟨(by first | rfl | (simp; done) | (simp [*]; done) | (rw [if_pos (by omega)]; first | rfl | (simp; done)) | (rw [if_neg (by omega)]; first | rfl | (simp; done)) | (simp; omega)), (by repeat (first | exact Below.refl _ _ | apply below_alloc | apply pw_below_drewN | apply below_drew1 | (refine Below.setCell ?_ (by first | (simp; done) | (simp; omega) | omega) _) | exact hBzz))⟩
                      · by_cases g1' : x.uid ≤ last
                        · by_cases g2 : nx ≤ x.uid
                          · have hR11 := hbdh.out (hbd2 (.inr (.inl g2)))
                            subst hR11
                            clear hbd2 hgd2
                            go_wp2_with fail
                            go_quiet ((go_at_call 52; first | exact quiet_eq (in_yes _ _ _ _ (by omega) (by omega)) | exact quiet_eq (in_no _ _ _ _ (by omega))))
                            go_wp2_with fail
                            go_ret
                            exact ⟨(by first | rfl | (simp; done) | (simp [*]; done) | (rw [if_pos (by omega)]; first | rfl | (simp; done)) | (rw [if_neg (by omega)]; first | rfl | (simp; done)) | (simp; omega)), (by repeat (first | exact Below.refl _ _ | apply below_alloc | apply pw_below_drewN | apply below_drew1 | (refine Below.setCell ?_ (by first | (simp; done) | (simp; omega) | omega) _) | exact hBzz))⟩
                          · have hR11 := hbdh.out (hbd2 (.inl g1'))
                            subst hR11
                            clear hbd2 hgd2
                            go_wp2_with fail
                            go_quiet ((go_at_call 52; first | exact quiet_eq (in_yes _ _ _ _ (by omega) (by omega)) | exact quiet_eq (in_no _ _ _ _ (by omega))))
                            go_wp2_with fail
                            go_ret
                            exact ⟨(by first | rfl | (simp; done) | (simp [*]; done) | (rw [if_pos (by omega)]; first | rfl | (simp; done)) | (rw [if_neg (by omega)]; first | rfl | (simp; done)) | (simp; omega)), (by repeat (first | exact Below.refl _ _ | apply below_alloc | apply pw_below_drewN | apply below_drew1 | (refine Below.setCell ?_ (by first | (simp; done) | (simp; omega) | omega) _) | exact hBzz))⟩
                        · by_cases g2 : nx ≤ x.uid
                          · have hR11 := hbdh.out (hbd2 (.inr (.inl g2)))
                            subst hR11
                            clear hbd2 hgd2
                            go_wp2_with fail
                            go_quiet ((go_at_call 52; first | exact quiet_eq (in_yes _ _ _ _ (by omega) (by omega)) | exact quiet_eq (in_no _ _ _ _ (by omega))))
                            go_wp2_with fail
                            go_ret
                            exact ⟨(by first | rfl | (simp; done) | (simp [*]; done) | (rw [if_pos (by omega)]; first | rfl | (simp; done)) | (rw [if_neg (by omega)]; first | rfl | (simp; done)) | (simp; omega)), (by repeat (first | exact Below.refl _ _ | apply below_alloc | apply pw_below_drewN | apply below_drew1 | (refine Below.setCell ?_ (by first | (simp; done) | (simp; omega) | omega) _) | exact hBzz))⟩
                          · by_cases g3 : x.flags < 0
                            · have hR11 := hbdh.out (hbd2 (.inr (.inr (.inl g3))))
                              subst hR11
                              clear hbd2 hgd2
                              go_wp2_with fail
                              go_quiet ((go_at_call 52; first | exact quiet_eq (in_yes _ _ _ _ (by omega) (by omega)) | exact quiet_eq (in_no _ _ _ _ (by omega))))
                              go_wp2_with fail
                              go_ret
                              exact ⟨(by first | rfl | (simp; done) | (simp [*]; done) | (rw [if_pos (by omega)]; first | rfl | (simp; done)) | (rw [if_neg (by omega)]; first | rfl | (simp; done)) | (simp; omega)), (by repeat (first | exact Below.refl _ _ | apply below_alloc | apply pw_below_drewN | apply below_drew1 | (refine Below.setCell ?_ (by first | (simp; done) | (simp; omega) | omega) _) | exact hBzz))⟩
                            · by_cases g4 : 31 < x.flags
                              · have hR11 := hbdh.out (hbd2 (.inr (.inr (.inr (.inl g4)))))
                                subst hR11
                                clear hbd2 hgd2
                                go_wp2_with fail
                                go_quiet ((go_at_call 52; first | exact quiet_eq (in_yes _ _ _ _ (by omega) (by omega)) | exact quiet_eq (in_no _ _ _ _ (by omega))))
                                go_wp2_with fail
                                go_ret
                                exact ⟨(by first | rfl | (simp; done) | (simp [*]; done) | (rw [if_pos (by omega)]; first | rfl | (simp; done)) | (rw [if_neg (by omega)]; first | rfl | (simp; done)) | (simp; omega)), (by repeat (first | exact Below.refl _ _ | apply below_alloc | apply pw_below_drewN | apply below_drew1 | (refine Below.setCell ?_ (by first | (simp; done) | (simp; omega) | omega) _) | exact hBzz))⟩
                              · by_cases g5 : 2000 < x.text.size
                                · have g5' : (2000 : Int) < (x.text.size : Int) := by omega
                                  have hR11 := hbdh.out (hbd2 (.inr (.inr (.inr (.inr g5)))))
                                  subst hR11
                                  clear hbd2 hgd2
                                  go_wp2_with fail
                                  go_quiet ((go_at_call 52; first | exact quiet_eq (in_yes _ _ _ _ (by omega) (by omega)) | exact quiet_eq (in_no _ _ _ _ (by omega))))
                                  go_wp2_with fail
                                  go_ret
                                  exact ⟨(by first | rfl | (simp; done) | (simp [*]; done) | (rw [if_pos (by omega)]; first | rfl | (simp; done)) | (rw [if_neg (by omega)]; first | rfl | (simp; done)) | (simp; omega)), (by repeat (first | exact Below.refl _ _ | apply below_alloc | apply pw_below_drewN | apply below_drew1 | (refine Below.setCell ?_ (by first | (simp; done) | (simp; omega) | omega) _) | exact hBzz))⟩
                                · have g5' : ¬ (2000 : Int) < (x.text.size : Int) := by omega
                                  have hn2 := Lib.hid (hgd2 (by intro h; rcases h with h | h | h | h | h <;> omega))
                                  clear hbd2 hgd2
                                  go_wp2_with fail
                                  go_quiet ((go_at_call 52; first | exact quiet_eq (in_yes _ _ _ _ (by omega) (by omega)) | exact quiet_eq (in_no _ _ _ _ (by omega))))
                                  go_wp2_with fail
                                  go_roundw
                                  case rel => exact ⟨(i + 1) + 1, x.uid, hlj, by go_num, by rw [← hn2.out], by omega, fun h => by omega, fun h h2 => by simp only [Nat.add_sub_cancel]; rw [hlx.out], hXz.below (show Below wr.heap.size wr _ from (by repeat (first | exact Below.refl _ _ | apply below_alloc | apply pw_below_drewN | apply below_drew1 | (refine Below.setCell ?_ (by first | (simp; done) | (simp; omega) | omega) _) ))) (by omega), hblkz.below (show Below wr.heap.size wr _ from (by repeat (first | exact Below.refl _ _ | apply below_alloc | apply pw_below_drewN | apply below_drew1 | (refine Below.setCell ?_ (by first | (simp; done) | (simp; omega) | omega) _) ))) (by omega), Below.trans hBz (Below.mono (show Below wr.heap.size wr _ from (by repeat (first | exact Below.refl _ _ | apply below_alloc | apply pw_below_drewN | apply below_drew1 | (refine Below.setCell ?_ (by first | (simp; done) | (simp; omega) | omega) _) ))) hBz.size)⟩
                                  case measure => simp [intOf]; omega
                  · obtain rfl : j = l.length := by omega
                    rw [mails_end] at hmo
                    have hst := hgdh.out hmo.symm
                    have j1 : ¬ (l.length : Int) < (l.length : Int) := by omega
                    have hyes2 := hyes.out
                    have hno2 := hno.out
                    rw [hst] at hyes2 hno2
                    replace hyes2 := Lib.hid hyes2
                    replace hno2 := Lib.hid hno2
                    clear hst hmo hjp hj0
                    go_wp2_with fail
                    go_roundw
                    case rel => exact ⟨k + 1, hlt, by go_num, hyes2.out, hno2.out, hblkz, hBzz⟩
                    case measure => simp [intOf]; omega
          · have hR11 := hno (hbd (fun h => hfi h.2))
            subst hR11
            have hfi' : 0 ≤ fi := by omega
            clear hbd hgd hyes hno hn
            go_wp2_with fail
            go_quiet ((first | (go_at_call 50; exact quiet_eq (HN.out _)) | (go_at_call 51; exact quiet_eq (HF.out _ (Kd.C_below hCq (by first | exact Below.refl _ _ | exact pw_below_drewN (Below.refl _ _) _)))) | (go_at_call 52; first | exact quiet_eq (in_yes _ _ _ _ (by omega) (by omega)) | exact quiet_eq (in_no _ _ _ _ (by omega)))))
            go_wp2_with fail
            go_ret
            exact ⟨(by first | rfl | (simp; done) | (simp [*]; done) | (rw [if_pos (by omega)]; first | rfl | (simp; done)) | (rw [if_neg (by omega)]; first | rfl | (simp; done)) | (simp; omega)), (by repeat (first | exact Below.refl _ _ | apply below_alloc | apply pw_below_drewN | apply below_drew1 | (refine Below.setCell ?_ (by first | (simp; done) | (simp; omega) | omega) _) | exact hB))⟩
        · have hR11 := hno (hbd (fun h => by have := h.1; unfold boxOk at this; rw [if_pos (.inl hn)] at this; cases this))
          subst hR11
          generalize nameFault nm = f at *
          have hfb : (f != 0) = true := by simp [hn]
          replace HN := Lib.hid HN
          clear hbd hgd hyes hno hn
          go_wp2_with fail
          go_quiet ((first | (go_at_call 50; exact quiet_eq (HN.out _)) | (go_at_call 51; exact quiet_eq (HF.out _ (Kd.C_below hCq (by first | exact Below.refl _ _ | exact pw_below_drewN (Below.refl _ _) _)))) | (go_at_call 52; first | exact quiet_eq (in_yes _ _ _ _ (by omega) (by omega)) | exact quiet_eq (in_no _ _ _ _ (by omega)))))
          go_wp2_with fail
          go_ret
          exact ⟨(by first | rfl | (simp; done) | (simp [*]; done) | (rw [if_pos (by omega)]; first | rfl | (simp; done)) | (rw [if_neg (by omega)]; first | rfl | (simp; done)) | (simp; omega)), (by repeat (first | exact Below.refl _ _ | apply below_alloc | apply pw_below_drewN | apply below_drew1 | (refine Below.setCell ?_ (by first | (simp; done) | (simp; omega) | omega) _) | exact hB))⟩
      · obtain rfl : k = bs.length := by omega
        have i1 : ¬ (bs.length : Int) < (bs.length : Int) := by omega
        have hall := hyes (boxes_end (by omega))
        have b1 := hblk.at 1 _ rfl
        rw [stTail, if_pos hall] at hR
        have htot : stSize bs ≤ 1000000 := by
          have h1 := boxes_sz bs.length 0 (by omega) hall
          have h2 : (bs.length - 0) * 60000 ≤ 5 * 60000 := Nat.mul_le_mul_right _ (by omega)
          rw [List.drop_zero] at h1; omega
        clear hyes hno hall
        replace hR := Lib.hid hR
        go_wp2_with fail
        go_loopw [7] (fun i wr => ∃ k : Nat, k ≤ es.length ∧ i = .int .i64 k ∧ spoolOk (es.drop k) = spoolOk es ∧ Blk wr w.heap.size [.slice A bs.length c, .slice A2 es.length c2] ∧ Below w.heap.size w wr) (fun i _ => es.length - (intOf i).toNat)
        case atStart => exact ⟨0, Nat.zero_le _, rfl, rfl, hblk, hB⟩
        case round =>
          clear hblk hB b0 b1 hz
          obtain ⟨k, hk, rfl, hsp, hblk, hB⟩ := hrel
          have hz := hblk.lt
          have b0 := hblk.at 0 _ rfl
          have b1 := hblk.at 1 _ rfl
          by_cases hlt : k < es.length
          · obtain ⟨ad, e1, hx0, hxj⟩ := flat_at (Kd.C_below hr2 hB) k hlt
            subst e1
            have q0 := hx0 _ rfl; have q1 := hxj 1 _ (by decide) rfl; have q2 := hxj 2 _ (by decide) rfl; have q3 := hxj 3 _ (by decide) rfl; have q4 := hxj 4 _ (by decide) rfl; have q5 := hxj 5 _ (by decide) rfl
            clear hx0 hxj
            obtain ⟨s1, s2, s3⟩ := hs.2 _ (List.getElem_mem hlt)
            have hbd := fun h => spool_bad hlt h
            have hgd := fun h h2 => spool_good hlt h h2
            rw [hsp] at hbd hgd
            have i0 : (0 : Int) ≤ (k : Int) := by omega
            have j1 : (k : Int) < (es.length : Int) := by omega
            generalize es[k] = x at *
            have HF := fun w => entryFault_calls x w s1 s2 s3
            by_cases hk6 : x.kind = 6
            · by_cases hf : entryFault x = 0
              · rw [hf] at HF
                have hn := hgd hk6 hf
                replace hn := Lib.hid hn
                replace HF := Lib.hid HF
                have hkb : (x.kind != 6) = false := by simp [hk6]
                clear hbd hgd hf hsp hk6
                go_wp2_with fail
                refine (HF.out _).mono ?_
                rintro e w2 ⟨rfl, hc2⟩
                have hb2 : Below wr.heap.size wr w2 := (by repeat (first | exact Below.refl _ _ | apply below_alloc | apply pw_below_drewN | apply below_drew1 | (refine Below.setCell ?_ (by first | (simp; done) | (simp; omega) | omega) _) | (refine below_then ?_ (by first | (simp; done) | (simp; omega) | omega) hc2)))
                have hblk2 := hblk.below hb2 hz
                have hB2 := hB.trans (hb2.mono (by omega))
                clear hc2 hb2 hblk
                go_wp2_with fail
                go_roundw
                case rel => exact ⟨k + 1, hlt, by go_num, hn.out.symm, hblk2, hB2⟩
                case measure => simp [intOf]; omega
              · have hR2 := hR.out
                rw [hbd (fun h => hf h.2), if_neg (by decide)] at hR2
                subst hR2
                generalize entryFault x = f at *
                have hfb : (f != 0) = true := by simp [hf]
                replace HF := Lib.hid HF
                have hkb : (x.kind != 6) = false := by simp [hk6]
                clear hbd hgd hf hsp hk6
                go_wp2_with fail
                refine (HF.out _).mono ?_
                rintro e w2 ⟨rfl, hc2⟩
                have hB2 : Below w.heap.size w w2 := (by repeat (first | exact Below.refl _ _ | apply below_alloc | apply pw_below_drewN | apply below_drew1 | (refine Below.setCell ?_ (by first | (simp; done) | (simp; omega) | omega) _) | (refine below_then ?_ (by first | (simp; done) | (simp; omega) | omega) hc2) | exact hB))
                go_wp2_with fail
                go_ret
                exact ⟨(by first | rfl | (simp; done) | (simp [*]; done) | (rw [if_pos (by omega)]; first | rfl | (simp; done)) | (rw [if_neg (by omega)]; first | rfl | (simp; done)) | (simp; omega)), hB2⟩
            · have hR2 := hR.out
              rw [hbd (fun h => hk6 h.1), if_neg (by decide)] at hR2
              subst hR2
              have hkb : (x.kind != 6) = true := by simp [hk6]
              clear hbd hgd hsp HF
              go_wp2_with fail
              go_ret
              exact ⟨(by first | rfl | (simp; done) | (simp [*]; done) | (rw [if_pos (by omega)]; first | rfl | (simp; done)) | (rw [if_neg (by omega)]; first | rfl | (simp; done)) | (simp; omega)), (by repeat (first | exact Below.refl _ _ | apply below_alloc | apply pw_below_drewN | apply below_drew1 | (refine Below.setCell ?_ (by first | (simp; done) | (simp; omega) | omega) _) | exact hB))⟩
          · obtain rfl : k = es.length := by omega
            rw [spool_end] at hsp
            have hR2 := hR.out
            rw [← hsp, if_pos rfl] at hR2
            have j1 : ¬ (es.length : Int) < (es.length : Int) := by omega
            have HS := Lib.hid (bytesOf_calls A c bs (.slice A2 es.length c2) wr ⟨_, _, _, rfl⟩ (Kd.C_below hr hB) htot)
            clear hsp hR
            by_cases hbig : 6000 < stSize bs
            · rw [if_pos hbig] at hR2
              subst hR2
              have hbig' : (6000 : Int) < ((stSize bs : Nat) : Int) := by omega
              go_wp2_with fail
              refine HS.out.mono ?_
              rintro e w2 ⟨rfl, hb2⟩
              go_wp2_with fail
              go_ret
              exact ⟨(by first | rfl | (simp; done) | (simp [*]; done) | (rw [if_pos (by omega)]; first | rfl | (simp; done)) | (rw [if_neg (by omega)]; first | rfl | (simp; done)) | (simp; omega)), hB.trans (hb2.mono hB.size)⟩
            · rw [if_neg hbig] at hR2
              subst hR2
              have hbig' : ¬ (6000 : Int) < ((stSize bs : Nat) : Int) := by omega
              go_wp2_with fail
              refine HS.out.mono ?_
              rintro e w2 ⟨rfl, hb2⟩
              go_wp2_with fail
              go_ret
              exact ⟨(by first | rfl | (simp; done) | (simp [*]; done) | (rw [if_pos (by omega)]; first | rfl | (simp; done)) | (rw [if_neg (by omega)]; first | rfl | (simp; done)) | (simp; omega)), hB.trans (hb2.mono hB.size)⟩
end Go.Proofs.YtijdghplfhfpaaaDoor.H

/- Boxes: the reference's Entered. -/
namespace Go.Proofs.YtijdghplfhfpaaaDoor.H
open Go.RowKit Go.Proofs.YtijdghplfhfpaaaDoorW.PrintWords Go.Proofs.YtijdghplfhfpaaaDoorW.PrintLast Go.Proofs.YtijdghplfhfpaaaDoor.U
set_option linter.unusedVariables false
set_option linter.unusedSimpArgs false
def PostRead (w : World) (R : Int × List ABox × List AEntry) (e : Ending) (w' : World) : Prop :=
  ∃ A c A2 c2, e = .returned (.tuple #[.agg #[.slice A R.2.1.length c, .slice A2 R.2.2.length c2], .int .i64 R.1]) ∧ kBox.C w' A R.2.1.length R.2.1 ∧ Kd.C kAEntry w' A2 R.2.2.length R.2.2 ∧ Below w.heap.size w w'
set_option maxHeartbeats 2000000 in
set_option maxRecDepth 100000 in
theorem enteredTop_calls (A : Option Addr) (c : Nat) (bs : List ABox) (A2 : Option Addr) (c2 : Nat) (es : List AEntry) (Al : Option Addr) (cl : Nat) (l : List AEntry) (w : World) (hr : kBox.C w A bs.length bs) (hc : bs.length ≤ c) (hr2 : Kd.C kAEntry w A2 es.length es) (hs : okSt bs es)
    (hrl : Kd.C kAEntry w Al l.length l) (hsl : ∀ x ∈ l, okE x) :
    Calls Tryd.prog 20 #[.agg #[.slice A bs.length c, .slice A2 es.length c2], .slice Al l.length cl] w (PostRead w (allV bs es l)) := by
  have h63 := hrl.2.1
  obtain ⟨W2, hW2⟩ : ∃ W2 : World, W2 = (w.alloc (.cells #[.slice A bs.length c, .slice A2 es.length c2] 25)).alloc (.cells #[.slice none 0 0, .slice none 0 0] 25) := ⟨_, rfl⟩
  have hP0 : Blk W2 w.heap.size [.slice A bs.length c, .slice A2 es.length c2] := by rw [hW2]; exact (Blk.made w _ _).alloc _
  have hQ0 : Blk W2 (w.heap.size + 1) [.slice none 0 0, .slice none 0 0] := by rw [hW2]; exact Blk.made_at _ _ _ (by simp)
  have hB0 : Below w.heap.size w W2 := by rw [hW2]; exact (by repeat (first | exact Below.refl _ _ | apply below_alloc | apply pw_below_drewN | apply below_drew1 | (refine Below.setCell ?_ (by first | (simp; done) | (simp; omega) | omega) _) ))
  have hz0 : W2.heap.size = w.heap.size + 2 := by rw [hW2]; simp
  replace hW2 := Lib.hid hW2
  have HC := stateFault_calls A c bs A2 c2 es W2 (Kd.C_below hr hB0) hc (Kd.C_below hr2 hB0) hs
  by_cases hf : stFault bs es = 0
  · have hinv := inv_of_ok hs hf
    rw [hf] at HC
    replace HC := Lib.hid HC
    by_cases h10 : 10 < l.length
    · rw [show allV bs es l = (1, [], []) by rw [allV, if_neg (by rw [hf]; decide), if_pos h10]]
      have h10' : (10 : Int) < (l.length : Int) := by omega
      clear hf
      go_enter Tryd.func20, Tryd.ntmps20
      go_wp2_with fail
      rw [← hW2.out]
      refine HC.out.mono ?_
      rintro e w1 ⟨rfl, hb1⟩
      have hz1 := hb1.size
      have hQ1 := hQ0.below hb1 (by omega)
      have hB1 := hB0.trans (hb1.mono (by omega))
      have q0 := (hQ1).at 0 _ rfl
      have q1 := (hQ1).at 1 _ rfl
      have q2 := (hQ1).free 0 _ rfl
      have q3 := (hQ1).free 1 _ rfl
      go_wp2_with fail
      refine bodyPost_ret (v := .tuple #[.agg #[.slice none 0 0, .slice none 0 0], .int .i64 1]) (by simp [results, Tryd.results20, go_sem, *]) rfl ?_
      exact ⟨none, 0, none, 0, rfl, C_none _ _, C_none _ _, (by repeat (first | exact Below.refl _ _ | apply below_alloc | apply pw_below_drewN | apply below_drew1 | (refine Below.setCell ?_ (by first | (simp; done) | (simp; omega) | omega) _) | exact hB1))⟩
    · rw [show allV bs es l = foldE bs es l by rw [allV, if_neg (by rw [hf]; decide), if_neg h10]]
      have h10' : ¬ (10 : Int) < (l.length : Int) := by omega
      generalize hF : foldE bs es l = F
      replace hF := Lib.hid hF
      clear hf
      have hb30 : ∀ b ∈ bs, b.2.2.length ≤ 1048576 := fun b hb => by have := (hinv.2.2 b hb).2.2.2.1; omega
      have hi1 := hinv.1
      have hi2 := hinv.2.1
      have HO := Lib.hid (fun W h1 h2 => stateCopy_calls A c bs A2 c2 es W h1 h2 (by omega) (by omega) hb30)
      go_enter Tryd.func20, Tryd.ntmps20
      go_wp2_with fail
      rw [← hW2.out]
      refine HC.out.mono ?_
      rintro e w1 ⟨rfl, hb1⟩
      have hz1 := hb1.size
      have hP1 := hP0.below hb1 (by omega)
      have hQ1 := hQ0.below hb1 (by omega)
      have hB1 := hB0.trans (hb1.mono (by omega))
      have p10 := hP1.at 0 _ rfl
      have p11 := hP1.at 1 _ rfl
      clear hP0 hQ0 hB0 hb1
      go_wp2_with fail
      refine (HO.out _ (Kd.C_below hr hB1) (Kd.C_below hr2 hB1)).mono ?_
      rintro e w3 ⟨vB, vS, rfl, hS3, hE3, hb3⟩
      obtain ⟨Ab, cb, rfl, hcb, _⟩ := Kd.S_reads hS3
      obtain ⟨As, cs, rfl⟩ := Kd.R_slice hE3
      have hz3 := hb3.size
      obtain ⟨pb, hpbe⟩ : ∃ pb, pb = w3.heap.size := ⟨_, rfl⟩
      obtain ⟨W4, hW4⟩ : ∃ W4 : World, W4 = w3.alloc (.cells #[.slice Ab bs.length cb, .slice As es.length cs] 25) := ⟨_, rfl⟩
      have hQ4 : Blk W4 (w.heap.size + 1) [.slice none 0 0, .slice none 0 0] := by rw [hW4]; exact (hQ1.below hb3 (by omega)).alloc _
      have hO4 : Blk W4 pb [.slice Ab bs.length cb, .slice As es.length cs] := by rw [hW4, hpbe]; exact Blk.made _ _ _
      have hB4 : Below w.heap.size w W4 := by rw [hW4]; exact below_alloc' (hB1.trans (hb3.mono (by omega))) (by omega) _
      have hrd4 : Rd (fun k => k = pb ∨ k = w.heap.size + 1) W4 Ab bs As es := by
        rw [hW4, hpbe]
        exact Rd.own (Kd.S_below (Kd.S_bound hS3) (by repeat (first | exact Below.refl _ _ | apply below_alloc | apply pw_below_drewN | apply below_drew1 | (refine Below.setCell ?_ (by first | (simp; done) | (simp; omega) | omega) _) ))) (Kd.R_below (Kd.R_bound hE3) (by repeat (first | exact Below.refl _ _ | apply below_alloc | apply pw_below_drewN | apply below_drew1 | (refine Below.setCell ?_ (by first | (simp; done) | (simp; omega) | omega) _) ))) (fun k hk hb hz => by have := hk.2.2.1; rcases hz with h | h <;> omega) (fun k hk hb hz => by have := hk.2.2.1; rcases hz with h | h <;> omega)
      have hz4 : pb < W4.heap.size := hO4.lt
      have hpw : w.heap.size + 1 < pb := by omega
      replace hW4 := Lib.hid hW4
      replace hpbe := Lib.hid hpbe
      clear hP1 hQ1 hB1 p10 p11 hb3 hS3 hE3 hz3 hz1 hz0
      go_wp2_with fail
      rw [← hW4.out, ← hpbe.out]
      go_loopw [8] (fun i wr => ∃ (k : Nat) (bs' : List ABox) (es' : List AEntry) (A' : Option Addr) (c' : Nat) (A3 : Option Addr) (c3 : Nat), k ≤ l.length ∧ i = .int .i64 k ∧ foldE bs' es' (l.drop k) = F ∧ InvS bs' es' ∧ bs'.length ≤ c' ∧ Blk wr pb [.slice A' bs'.length c', .slice A3 es'.length c3] ∧ Rd (fun k => k = pb ∨ k = w.heap.size + 1) wr A' bs' A3 es' ∧ Blk wr (w.heap.size + 1) [.slice none 0 0, .slice none 0 0] ∧ Below w.heap.size w wr) (fun i _ => l.length - (intOf i).toNat)
      case atStart => exact ⟨0, bs, es, Ab, cb, As, cs, Nat.zero_le _, rfl, hF.out, hinv, hcb, hO4, hrd4, hQ4, hB4⟩
      case round =>
        clear hF hrd4 hO4 hQ4 hB4 hinv hi1 hi2 hcb
        obtain ⟨k, bs', es', A', c', A3, c3, hk, rfl, hF, hinv, hc', hO, hrd, hQ, hB⟩ := hrel
        have hzr := hO.lt
        have hqr := hQ.lt
        by_cases hlt : k < l.length
        · obtain ⟨ad, e1, hx0, hxj⟩ := flat_at (Kd.C_below hrl hB) k hlt
          subst e1
          have q0 := hx0 _ rfl; have q1 := hxj 1 _ (by decide) rfl; have q2 := hxj 2 _ (by decide) rfl; have q3 := hxj 3 _ (by decide) rfl; have q4 := hxj 4 _ (by decide) rfl; have q5 := hxj 5 _ (by decide) rfl
          clear hx0 hxj
          have hadr : (ad.add (k * 6)).block < wr.heap.size := lt_of_cell' q0
          obtain ⟨s1, s2, s3⟩ := hsl _ (List.getElem_mem hlt)
          have i0 : (0 : Int) ≤ (k : Int) := by omega
          have i1 : (k : Int) < (l.length : Int) := by omega
          have hff := fun h => fold_form (bs := bs') (es := es') hlt h
          have hfl := fun h h2 => fold_fail (bs := bs') (es := es') hlt h h2
          have hfs := fun h h2 => fold_step (bs := bs') (es := es') hlt h h2
          rw [hF] at hff hfl hfs
          clear hF
          generalize l[k] = x at *
          have HF := entryFault_calls x wr s1 s2 s3
          by_cases hxf : entryFault x = 0
          · rw [hxf] at HF
            replace HF := Lib.hid HF
            have HA := fun Z W h hZ => entered_calls Z x A' c' bs' A3 c3 es' W h hZ hc' hinv hxf
            have hinv2 := inv_ent hinv hxf
            generalize entV bs' es' x = R at *
            obtain ⟨rf, bs2, es2⟩ := R
            simp only at hfl hfs hinv2
            replace HA := Lib.hid HA
            clear hff
            replace hfl := Lib.hid (hfl hxf)
            replace hfs := Lib.hid (hfs hxf)
            clear hxf
            go_wp2_with fail
            refine HF.out.mono ?_
            rintro e w5 ⟨rfl, hb5⟩
            have hQ5 := hQ.below hb5 hqr
            have hO5 := hO.below hb5 hzr
            have hB5 := hB.trans (hb5.mono hB.size)
            have hrd5 := hrd.below hb5
            have hz5 := hb5.size
            have k0 := cell_drew' (hO5.at 0 _ rfl)
            have k1 := cell_drew' (hO5.at 1 _ rfl)
            have q0d := cell_drew' ((hb5.cell hadr).trans q0)
            have q1d := cell_drew' ((hb5.cell (p := ⟨(ad.add (k * 6)).block, (ad.add (k * 6)).off + 1, none⟩) hadr).trans q1)
            have q2d := cell_drew' ((hb5.cell (p := ⟨(ad.add (k * 6)).block, (ad.add (k * 6)).off + 2, none⟩) hadr).trans q2)
            have q3d := cell_drew' ((hb5.cell (p := ⟨(ad.add (k * 6)).block, (ad.add (k * 6)).off + 3, none⟩) hadr).trans q3)
            have q4d := cell_drew' ((hb5.cell (p := ⟨(ad.add (k * 6)).block, (ad.add (k * 6)).off + 4, none⟩) hadr).trans q4)
            have q5d := cell_drew' ((hb5.cell (p := ⟨(ad.add (k * 6)).block, (ad.add (k * 6)).off + 5, none⟩) hadr).trans q5)
            have hrdd : Rd (fun k => k = pb ∨ k = w.heap.size + 1) w5.drew A' bs' A3 es' := hrd5.below (show Below w5.heap.size w5 w5.drew from (by repeat (first | exact Below.refl _ _ | apply below_alloc | apply pw_below_drewN | apply below_drew1 | (refine Below.setCell ?_ (by first | (simp; done) | (simp; omega) | omega) _) )))
            clear q0 q1 q2 q3 q4 q5
            go_wp2_with fail
            have hOd := hO5.drew
            have hQd := hQ5.drew
            refine wp_region_held_drew (S := fun w' => w'.cell? ⟨pb, 0, none⟩ = some (.slice A' bs'.length c') ∧ w'.cell? ⟨pb, 1, none⟩ = some (.slice A3 es'.length c3) ∧ w'.cell? (ad.add (k * 6)) = some (.int .i64 x.kind) ∧ w'.cell? ⟨(ad.add (k * 6)).block, (ad.add (k * 6)).off + 1, none⟩ = some (.string x.box) ∧ w'.cell? ⟨(ad.add (k * 6)).block, (ad.add (k * 6)).off + 2, none⟩ = some (.int .i64 x.uid) ∧ w'.cell? ⟨(ad.add (k * 6)).block, (ad.add (k * 6)).off + 3, none⟩ = some (.int .i64 x.flags) ∧ w'.cell? ⟨(ad.add (k * 6)).block, (ad.add (k * 6)).off + 4, none⟩ = some (.string x.to_) ∧ w'.cell? ⟨(ad.add (k * 6)).block, (ad.add (k * 6)).off + 5, none⟩ = some (.string x.text)) (by kernel_rfl) ?_ (fun hHeld => ?_)
            · exact ⟨k0, k1, q0d, q1d, q2d, q3d, q4d, q5d⟩
            refine wpAnyH_take (i := 0) (oi := { dst := some 43, op := _, type := _, pos := _, after := _, guard := _ }) (v := .agg #[.slice A' bs'.length c', .slice A3 es'.length c3]) rfl (by kernel_rfl) (by kernel_rfl) (by kernel_rfl) (fun _ _ _ h => h) (Or.inl ⟨by rfl, by (intro w hSw; (try dsimp only at hSw); first | (go_simp; done) | (go_simp; with_reducible rfl) | (go_simp; omega) | (go_simp; simp [*]; done))⟩) (by assumption) ?_; try simp only [Act.put, List.setIfInBounds_toArray, List.set_cons_zero, List.set_cons_succ]
            refine wpAnyH_take (i := 1) (oi := { dst := some 44, op := _, type := _, pos := _, after := _, guard := _ }) (v := .slice (some ad) l.length cl) rfl (by kernel_rfl) (by kernel_rfl) (by kernel_rfl) (fun _ _ _ h => h) (Or.inl ⟨by rfl, by (intro w hSw; (try dsimp only at hSw); first | (go_simp; done) | (go_simp; with_reducible rfl) | (go_simp; omega) | (go_simp; simp [*]; done))⟩) (by assumption) ?_; try simp only [Act.put, List.setIfInBounds_toArray, List.set_cons_zero, List.set_cons_succ]
            refine wpAnyH_take (i := 2) (oi := { dst := some 45, op := _, type := _, pos := _, after := _, guard := _ }) (v := .int .i64 k) rfl (by kernel_rfl) (by kernel_rfl) (by kernel_rfl) (fun _ _ _ h => h) (Or.inl ⟨by rfl, by (intro w hSw; (try dsimp only at hSw); first | (go_simp; done) | (go_simp; with_reducible rfl) | (go_simp; omega) | (go_simp; simp [*]; done))⟩) (by assumption) ?_; try simp only [Act.put, List.setIfInBounds_toArray, List.set_cons_zero, List.set_cons_succ]
            refine wpAnyH_take (i := 3) (oi := { dst := some 46, op := _, type := _, pos := _, after := _, guard := _ }) (v := .pointer (some (ad.add (k * 6)))) rfl (by kernel_rfl) (by kernel_rfl) (by kernel_rfl) (fun _ _ _ h => h) (Or.inl ⟨by rfl, by (intro w hSw; (try dsimp only at hSw); first | (go_simp; done) | (go_simp; with_reducible rfl) | (go_simp; omega) | (go_simp; simp [*]; done))⟩) (by assumption) ?_; try simp only [Act.put, List.setIfInBounds_toArray, List.set_cons_zero, List.set_cons_succ]
            refine wpAnyH_take (i := 4) (oi := { dst := some 47, op := _, type := _, pos := _, after := _, guard := _ }) (v := .agg #[.int .i64 x.kind, .string x.box, .int .i64 x.uid, .int .i64 x.flags, .string x.to_, .string x.text]) rfl (by kernel_rfl) (by kernel_rfl) (by kernel_rfl) (fun _ _ _ h => h) (Or.inl ⟨by rfl, by (intro w hSw; (try dsimp only at hSw); first | (go_simp; done) | (go_simp; with_reducible rfl) | (go_simp; omega) | (go_simp; simp [*]; done))⟩) (by assumption) ?_; try simp only [Act.put, List.setIfInBounds_toArray, List.set_cons_zero, List.set_cons_succ]
            refine wpAnyH_ready (rs := [5, 9]) (by kernel_rfl) (by simp) ?_
            refine AllReadyH.cons (o := { dst := some 48, op := _, type := _, pos := _, after := _, guard := _ }) rfl (fun K hK => ?_) (AllReadyH.cons (o := { dst := some 10, op := _, type := _, pos := _, after := _, guard := _ }) rfl (fun K hK => ?_) AllReadyH.nil)
            · go_simp
              go_at_call 57
              refine (HA.out (fun k => k = pb ∨ k = w.heap.size + 1) _ hrdd (fun k hk => by rcases hk with hk | hk <;> (simp; omega))).mono ?_
              rintro e w6 ⟨A6, c6, A7, c7, rfl, hc6, hrd6, hb6⟩
              (try simp only at hc6 hrd6 ⊢)
              have z0 := (hb6.cell (lt_of_cell' k0)).trans k0
              have z1 := (hb6.cell (lt_of_cell' k1)).trans k1
              have r0 := (hb6.cell (lt_of_cell' q0d)).trans q0d
              have r1 := (hb6.cell (lt_of_cell' q1d)).trans q1d
              have r2 := (hb6.cell (lt_of_cell' q2d)).trans q2d
              have r3 := (hb6.cell (lt_of_cell' q3d)).trans q3d
              have r4 := (hb6.cell (lt_of_cell' q4d)).trans q4d
              have r5 := (hb6.cell (lt_of_cell' q5d)).trans q5d
              have hz6 : w5.heap.size ≤ w6.heap.size := by have := hb6.size; simpa using this
              (try simp only [Result.andThen])
              refine hK.out _ _ ⟨z0, z1, r0, r1, r2, r3, r4, r5⟩ (fun hHeld => ?_)
              clear hK K
              skip
              refine wpAnyH_take (i := 6) (oi := { dst := some 42, op := _, type := _, pos := _, after := _, guard := _ }) (v := .tuple #[.agg #[.slice A6 bs2.length c6, .slice A7 es2.length c7], .int .i64 rf]) rfl (by kernel_rfl) (by kernel_rfl) (by kernel_rfl) (fun _ _ _ h => h) (Or.inl ⟨by rfl, by (intro w hSw; (try dsimp only at hSw); first | (go_simp; done) | (go_simp; with_reducible rfl) | (go_simp; omega) | (go_simp; simp [*]; done))⟩) (by assumption) ?_; try simp only [Act.put, List.setIfInBounds_toArray, List.set_cons_zero, List.set_cons_succ]
              refine wpAnyH_take (i := 7) (oi := { dst := some 49, op := _, type := _, pos := _, after := _, guard := _ }) (v := .agg #[.slice A6 bs2.length c6, .slice A7 es2.length c7]) rfl (by kernel_rfl) (by kernel_rfl) (by kernel_rfl) (fun _ _ _ h => h) (Or.inl ⟨by rfl, by (intro w hSw; (try dsimp only at hSw); first | (go_simp; done) | (go_simp; with_reducible rfl) | (go_simp; omega) | (go_simp; simp [*]; done))⟩) (by assumption) ?_; try simp only [Act.put, List.setIfInBounds_toArray, List.set_cons_zero, List.set_cons_succ]
              refine wpAnyH_take (i := 8) (oi := { dst := some 50, op := _, type := _, pos := _, after := _, guard := _ }) (v := .int .i64 rf) rfl (by kernel_rfl) (by kernel_rfl) (by kernel_rfl) (fun _ _ _ h => h) (Or.inl ⟨by rfl, by (intro w hSw; (try dsimp only at hSw); first | (go_simp; done) | (go_simp; with_reducible rfl) | (go_simp; omega) | (go_simp; simp [*]; done))⟩) (by assumption) ?_; try simp only [Act.put, List.setIfInBounds_toArray, List.set_cons_zero, List.set_cons_succ]
              refine wpAnyH_ready (rs := [9]) (by kernel_rfl) (by simp) ?_
              refine AllReadyH.cons (o := { dst := some 10, op := _, type := _, pos := _, after := _, guard := _ }) rfl (fun K hK => ?_) AllReadyH.nil
              go_simp
              refine hK.out _ _ ⟨cell_alloc' z0 _, cell_alloc' z1 _, cell_alloc' r0 _, cell_alloc' r1 _, cell_alloc' r2 _, cell_alloc' r3 _, cell_alloc' r4 _, cell_alloc' r5 _⟩ (fun hHeld => ?_)
              clear hK K
              obtain ⟨W7, hW7⟩ : ∃ W7 : World, W7 = w6.alloc (.cells #[.slice none 0 0, .slice none 0 0] 25) := ⟨_, rfl⟩
              have hbW : Below w6.heap.size w6 W7 := by rw [hW7]; exact (by repeat (first | exact Below.refl _ _ | apply below_alloc | apply pw_below_drewN | apply below_drew1 | (refine Below.setCell ?_ (by first | (simp; done) | (simp; omega) | omega) _) ))
              have hT7 : Blk W7 w6.heap.size [.slice none 0 0, .slice none 0 0] := by rw [hW7]; exact Blk.made _ _ _
              have hO7 := (hOd.below hb6 hOd.lt).below hbW (by omega)
              have hQ7 := (hQd.below hb6 hQd.lt).below hbW (by omega)
              have hrd7 := hrd6.step (Z' := fun k => (k = pb ∨ k = w.heap.size + 1) ∨ k = w6.heap.size) hbW.size (fun k _ hlt => hbW.block k hlt) (fun k hk hz => hz.elim id (fun h => by omega))
              have hB7 : Below w.heap.size w W7 := (hB5.trans ((Below.trans (show Below w5.heap.size w5 w5.drew from (by repeat (first | exact Below.refl _ _ | apply below_alloc | apply pw_below_drewN | apply below_drew1 | (refine Below.setCell ?_ (by first | (simp; done) | (simp; omega) | omega) _) ))) (hb6.mono (by simp))).mono hB5.size)).trans (hbW.mono (by omega))
              replace z0 := (hbW.cell (lt_of_cell' z0)).trans z0
              replace z1 := (hbW.cell (lt_of_cell' z1)).trans z1
              replace r0 := (hbW.cell (lt_of_cell' r0)).trans r0
              replace r1 := (hbW.cell (lt_of_cell' r1)).trans r1
              replace r2 := (hbW.cell (lt_of_cell' r2)).trans r2
              replace r3 := (hbW.cell (lt_of_cell' r3)).trans r3
              replace r4 := (hbW.cell (lt_of_cell' r4)).trans r4
              replace r5 := (hbW.cell (lt_of_cell' r5)).trans r5
              have hTb : pb < w6.heap.size ∧ w.heap.size + 1 < w6.heap.size ∧ (ad.add (k * 6)).block < w6.heap.size := ⟨by omega, by omega, by omega⟩
              rw [← hW7]
              generalize w6.heap.size = T at *
              replace hW7 := Lib.hid hW7
              obtain ⟨hTb1, hTb2, hTb3⟩ := hTb
              have nn1 : pb ≠ T := by omega
              have nn2 : w.heap.size + 1 ≠ T := by omega
              have nn3 : (ad.add (k * 6)).block ≠ T := by omega
              have v0 := hT7.at 0 _ rfl
              have v1 := hT7.at 1 _ rfl
              have v2 := hT7.free 0 _ rfl
              have v3 := hT7.free 1 _ rfl
              refine wpAnyH_ready (rs := [10]) (by kernel_rfl) (by simp) ?_
              refine AllReadyH.cons (o := { dst := none, op := _, type := _, pos := _, after := _, guard := _ }) rfl (fun K hK => ?_) AllReadyH.nil
              go_simp
              have hT8 := (hT7.set 0 (.slice A6 bs2.length c6) (by simp)).set 1 (.slice A7 es2.length c7) (by simp)
              have hO8 := (hO7.other (c := T) (j := 0) (Ne.symm nn1) (.slice A6 bs2.length c6)).other (c := T) (j := 1) (Ne.symm nn1) (.slice A7 es2.length c7)
              have hQ8 := (hQ7.other (c := T) (j := 0) (Ne.symm nn2) (.slice A6 bs2.length c6)).other (c := T) (j := 1) (Ne.symm nn2) (.slice A7 es2.length c7)
              have hrd8 := ((hrd7.stored (r := T) (.inr rfl) 0 (.slice A6 bs2.length c6)).stored (r := T) (.inr rfl) 1 (.slice A7 es2.length c7)).less (Z' := fun k => k = pb ∨ k = w.heap.size + 1) (fun k hk => .inl hk)
              have hB8 := Below.setCell (p := ⟨T, 1, none⟩) (Below.setCell (p := ⟨T, 0, none⟩) hB7 (show w.heap.size ≤ T by omega) (.slice A6 bs2.length c6)) (show w.heap.size ≤ T by omega) (.slice A7 es2.length c7)
              refine hK.out _ _ ⟨hO8.at 0 _ rfl, hO8.at 1 _ rfl, cell_other' (cell_other' r0 nn3 _) nn3 _, cell_other' (cell_other' r1 (c := T) (j := 0) nn3 _) (c := T) (j := 1) nn3 _, cell_other' (cell_other' r2 (c := T) (j := 0) nn3 _) (c := T) (j := 1) nn3 _, cell_other' (cell_other' r3 (c := T) (j := 0) nn3 _) (c := T) (j := 1) nn3 _, cell_other' (cell_other' r4 (c := T) (j := 0) nn3 _) (c := T) (j := 1) nn3 _, cell_other' (cell_other' r5 (c := T) (j := 0) nn3 _) (c := T) (j := 1) nn3 _⟩ (fun hHeld => ?_)
              clear hK K
              refine wpAnyH_take (i := 11) (oi := { dst := some 11, op := _, type := _, pos := _, after := _, guard := _ }) (v := .int .i64 rf) rfl (by kernel_rfl) (by kernel_rfl) (by kernel_rfl) (fun _ _ _ h => h) (Or.inl ⟨by rfl, by (intro w hSw; (try dsimp only at hSw); first | (go_simp; done) | (go_simp; with_reducible rfl) | (go_simp; omega) | (go_simp; simp [*]; done))⟩) (by assumption) ?_; try simp only [Act.put, List.setIfInBounds_toArray, List.set_cons_zero, List.set_cons_succ]
              refine wpAnyH_done (by kernel_rfl) ?_ _
              generalize (W7.setCell ⟨T, 0, none⟩ (.slice A6 bs2.length c6)).setCell ⟨T, 1, none⟩ (.slice A7 es2.length c7) = W8 at *
              clear z0 z1 r0 r1 r2 r3 r4 r5 v0 v1 v2 v3
              by_cases hen : rf = 0
              · have hF2 := Lib.hid (hfs.out hen).symm
                have hrb : (rf != 0) = false := by simp [hen]
                clear hen hfl hfs
                have y0 := hO8.free 0 _ rfl
                have y1 := hO8.free 1 _ rfl
                have y2 := hO8.at 0 _ rfl
                have y3 := hO8.at 1 _ rfl
                have t0 := hT8.at 0 _ rfl
                have t1 := hT8.at 1 _ rfl
                go_wp2_with fail
                go_roundw
                case rel => exact ⟨k + 1, bs2, es2, A6, c6, A7, c7, hlt, by go_num, hF2.out, hinv2, hc6, (hO8.set 0 _ (by simp)).set 1 _ (by simp), (hrd8.stored (.inl rfl) 0 _).stored (.inl rfl) 1 _, (hQ8.other (by omega) _).other (by omega) _, (by repeat (first | exact Below.refl _ _ | apply below_alloc | apply pw_below_drewN | apply below_drew1 | (refine Below.setCell ?_ (by first | (simp; done) | (simp; omega) | omega) _) | exact hB8))⟩
                case measure => simp [intOf]; omega
              · have hF2 := hfl.out hen
                subst hF2
                have hrb : (rf != 0) = true := by simp [hen]
                clear hen hfs hfl
                have q0 := (hQ8).at 0 _ rfl
                have q1 := (hQ8).at 1 _ rfl
                have q2 := (hQ8).free 0 _ rfl
                have q3 := (hQ8).free 1 _ rfl
                go_wp2_with fail
                refine bodyPost_ret (v := .tuple #[.agg #[.slice none 0 0, .slice none 0 0], .int .i64 rf]) (by simp [results, Tryd.results20, go_sem, *]) rfl ?_
                exact ⟨none, 0, none, 0, rfl, C_none _ _, C_none _ _, (by repeat (first | exact Below.refl _ _ | apply below_alloc | apply pw_below_drewN | apply below_drew1 | (refine Below.setCell ?_ (by first | (simp; done) | (simp; omega) | omega) _) | exact hB8))⟩
            · go_simp
              refine hK.out _ _ ⟨cell_alloc' k0 _, cell_alloc' k1 _, cell_alloc' q0d _, cell_alloc' q1d _, cell_alloc' q2d _, cell_alloc' q3d _, cell_alloc' q4d _, cell_alloc' q5d _⟩ (fun hHeld => ?_)
              clear hK K
              obtain ⟨Wa, hWa⟩ : ∃ Wa : World, Wa = w5.drew.alloc (.cells #[.slice none 0 0, .slice none 0 0] 25) := ⟨_, rfl⟩
              have hbW : Below w5.drew.heap.size w5.drew Wa := by rw [hWa]; exact (by repeat (first | exact Below.refl _ _ | apply below_alloc | apply pw_below_drewN | apply below_drew1 | (refine Below.setCell ?_ (by first | (simp; done) | (simp; omega) | omega) _) ))
              have hTa : Blk Wa w5.heap.size [.slice none 0 0, .slice none 0 0] := by rw [hWa]; exact Blk.made_at _ _ _ (by simp)
              have hOa := hOd.below hbW hOd.lt
              have hQa := hQd.below hbW hQd.lt
              have hrda := hrdd.step (Z' := fun k => (k = pb ∨ k = w.heap.size + 1) ∨ k = w5.heap.size) hbW.size (fun k _ hlt => hbW.block k hlt) (fun k hk hz => hz.elim id (fun h => by simp at hk; omega))
              have hBa : Below w.heap.size w Wa := (hB5.trans ((show Below w5.heap.size w5 w5.drew from (by repeat (first | exact Below.refl _ _ | apply below_alloc | apply pw_below_drewN | apply below_drew1 | (refine Below.setCell ?_ (by first | (simp; done) | (simp; omega) | omega) _) ))).mono hB5.size)).trans (hbW.mono (by simp; omega))
              replace k0 := (hbW.cell (lt_of_cell' k0)).trans k0
              replace k1 := (hbW.cell (lt_of_cell' k1)).trans k1
              replace q0d := (hbW.cell (lt_of_cell' q0d)).trans q0d
              replace q1d := (hbW.cell (lt_of_cell' q1d)).trans q1d
              replace q2d := (hbW.cell (lt_of_cell' q2d)).trans q2d
              replace q3d := (hbW.cell (lt_of_cell' q3d)).trans q3d
              replace q4d := (hbW.cell (lt_of_cell' q4d)).trans q4d
              replace q5d := (hbW.cell (lt_of_cell' q5d)).trans q5d
              have hTb : pb < w5.heap.size ∧ w.heap.size + 1 < w5.heap.size ∧ (ad.add (k * 6)).block < w5.heap.size := ⟨by omega, by omega, by omega⟩
              have hza := hbW.size
              simp at hza
              rw [show (w5.alloc (.cells #[.slice none 0 0, .slice none 0 0] 25)).drew = w5.drew.alloc (.cells #[.slice none 0 0, .slice none 0 0] 25) from rfl, ← hWa]
              generalize w5.heap.size = T at *
              replace hWa := Lib.hid hWa
              refine wpAnyH_ready (rs := [5]) (by kernel_rfl) (by simp) ?_
              refine AllReadyH.cons (o := { dst := some 48, op := _, type := _, pos := _, after := _, guard := _ }) rfl (fun K hK => ?_) AllReadyH.nil
              go_simp
              go_at_call 57
              refine (HA.out (fun k => (k = pb ∨ k = w.heap.size + 1) ∨ k = T) _ hrda (fun k hk => by have := hTa.lt; rcases hk with (hk | hk) | hk <;> omega)).mono ?_
              rintro e W7 ⟨A6, c6, A7, c7, rfl, hc6, hrd7, hb6⟩
              (try simp only at hc6 hrd7 ⊢)
              have z0 := (hb6.cell (lt_of_cell' k0)).trans k0
              have z1 := (hb6.cell (lt_of_cell' k1)).trans k1
              have r0 := (hb6.cell (lt_of_cell' q0d)).trans q0d
              have r1 := (hb6.cell (lt_of_cell' q1d)).trans q1d
              have r2 := (hb6.cell (lt_of_cell' q2d)).trans q2d
              have r3 := (hb6.cell (lt_of_cell' q3d)).trans q3d
              have r4 := (hb6.cell (lt_of_cell' q4d)).trans q4d
              have r5 := (hb6.cell (lt_of_cell' q5d)).trans q5d
              have hz6 := hb6.size
              have hT7 := hTa.below hb6 hTa.lt
              have hO7 := hOa.below hb6 hOa.lt
              have hQ7 := hQa.below hb6 hQa.lt
              have hB7 := hBa.trans (hb6.mono hBa.size)
              (try simp only [Result.andThen])
              refine hK.out _ _ ⟨z0, z1, r0, r1, r2, r3, r4, r5⟩ (fun hHeld => ?_)
              clear hK K
              skip
              refine wpAnyH_take (i := 6) (oi := { dst := some 42, op := _, type := _, pos := _, after := _, guard := _ }) (v := .tuple #[.agg #[.slice A6 bs2.length c6, .slice A7 es2.length c7], .int .i64 rf]) rfl (by kernel_rfl) (by kernel_rfl) (by kernel_rfl) (fun _ _ _ h => h) (Or.inl ⟨by rfl, by (intro w hSw; (try dsimp only at hSw); first | (go_simp; done) | (go_simp; with_reducible rfl) | (go_simp; omega) | (go_simp; simp [*]; done))⟩) (by assumption) ?_; try simp only [Act.put, List.setIfInBounds_toArray, List.set_cons_zero, List.set_cons_succ]
              refine wpAnyH_take (i := 7) (oi := { dst := some 49, op := _, type := _, pos := _, after := _, guard := _ }) (v := .agg #[.slice A6 bs2.length c6, .slice A7 es2.length c7]) rfl (by kernel_rfl) (by kernel_rfl) (by kernel_rfl) (fun _ _ _ h => h) (Or.inl ⟨by rfl, by (intro w hSw; (try dsimp only at hSw); first | (go_simp; done) | (go_simp; with_reducible rfl) | (go_simp; omega) | (go_simp; simp [*]; done))⟩) (by assumption) ?_; try simp only [Act.put, List.setIfInBounds_toArray, List.set_cons_zero, List.set_cons_succ]
              refine wpAnyH_take (i := 8) (oi := { dst := some 50, op := _, type := _, pos := _, after := _, guard := _ }) (v := .int .i64 rf) rfl (by kernel_rfl) (by kernel_rfl) (by kernel_rfl) (fun _ _ _ h => h) (Or.inl ⟨by rfl, by (intro w hSw; (try dsimp only at hSw); first | (go_simp; done) | (go_simp; with_reducible rfl) | (go_simp; omega) | (go_simp; simp [*]; done))⟩) (by assumption) ?_; try simp only [Act.put, List.setIfInBounds_toArray, List.set_cons_zero, List.set_cons_succ]
              obtain ⟨hTb1, hTb2, hTb3⟩ := hTb
              have nn1 : pb ≠ T := by omega
              have nn2 : w.heap.size + 1 ≠ T := by omega
              have nn3 : (ad.add (k * 6)).block ≠ T := by omega
              have v0 := hT7.at 0 _ rfl
              have v1 := hT7.at 1 _ rfl
              have v2 := hT7.free 0 _ rfl
              have v3 := hT7.free 1 _ rfl
              refine wpAnyH_ready (rs := [10]) (by kernel_rfl) (by simp) ?_
              refine AllReadyH.cons (o := { dst := none, op := _, type := _, pos := _, after := _, guard := _ }) rfl (fun K hK => ?_) AllReadyH.nil
              go_simp
              have hT8 := (hT7.set 0 (.slice A6 bs2.length c6) (by simp)).set 1 (.slice A7 es2.length c7) (by simp)
              have hO8 := (hO7.other (c := T) (j := 0) (Ne.symm nn1) (.slice A6 bs2.length c6)).other (c := T) (j := 1) (Ne.symm nn1) (.slice A7 es2.length c7)
              have hQ8 := (hQ7.other (c := T) (j := 0) (Ne.symm nn2) (.slice A6 bs2.length c6)).other (c := T) (j := 1) (Ne.symm nn2) (.slice A7 es2.length c7)
              have hrd8 := ((hrd7.stored (r := T) (.inr rfl) 0 (.slice A6 bs2.length c6)).stored (r := T) (.inr rfl) 1 (.slice A7 es2.length c7)).less (Z' := fun k => k = pb ∨ k = w.heap.size + 1) (fun k hk => .inl hk)
              have hB8 := Below.setCell (p := ⟨T, 1, none⟩) (Below.setCell (p := ⟨T, 0, none⟩) hB7 (show w.heap.size ≤ T by omega) (.slice A6 bs2.length c6)) (show w.heap.size ≤ T by omega) (.slice A7 es2.length c7)
              refine hK.out _ _ ⟨hO8.at 0 _ rfl, hO8.at 1 _ rfl, cell_other' (cell_other' r0 nn3 _) nn3 _, cell_other' (cell_other' r1 (c := T) (j := 0) nn3 _) (c := T) (j := 1) nn3 _, cell_other' (cell_other' r2 (c := T) (j := 0) nn3 _) (c := T) (j := 1) nn3 _, cell_other' (cell_other' r3 (c := T) (j := 0) nn3 _) (c := T) (j := 1) nn3 _, cell_other' (cell_other' r4 (c := T) (j := 0) nn3 _) (c := T) (j := 1) nn3 _, cell_other' (cell_other' r5 (c := T) (j := 0) nn3 _) (c := T) (j := 1) nn3 _⟩ (fun hHeld => ?_)
              clear hK K
              refine wpAnyH_take (i := 11) (oi := { dst := some 11, op := _, type := _, pos := _, after := _, guard := _ }) (v := .int .i64 rf) rfl (by kernel_rfl) (by kernel_rfl) (by kernel_rfl) (fun _ _ _ h => h) (Or.inl ⟨by rfl, by (intro w hSw; (try dsimp only at hSw); first | (go_simp; done) | (go_simp; with_reducible rfl) | (go_simp; omega) | (go_simp; simp [*]; done))⟩) (by assumption) ?_; try simp only [Act.put, List.setIfInBounds_toArray, List.set_cons_zero, List.set_cons_succ]
              refine wpAnyH_done (by kernel_rfl) ?_ _
              generalize (W7.setCell ⟨T, 0, none⟩ (.slice A6 bs2.length c6)).setCell ⟨T, 1, none⟩ (.slice A7 es2.length c7) = W8 at *
              clear z0 z1 r0 r1 r2 r3 r4 r5 v0 v1 v2 v3
              by_cases hen : rf = 0
              · have hF2 := Lib.hid (hfs.out hen).symm
                have hrb : (rf != 0) = false := by simp [hen]
                clear hen hfl hfs
                have y0 := hO8.free 0 _ rfl
                have y1 := hO8.free 1 _ rfl
                have y2 := hO8.at 0 _ rfl
                have y3 := hO8.at 1 _ rfl
                have t0 := hT8.at 0 _ rfl
                have t1 := hT8.at 1 _ rfl
                go_wp2_with fail
                go_roundw
                case rel => exact ⟨k + 1, bs2, es2, A6, c6, A7, c7, hlt, by go_num, hF2.out, hinv2, hc6, (hO8.set 0 _ (by simp)).set 1 _ (by simp), (hrd8.stored (.inl rfl) 0 _).stored (.inl rfl) 1 _, (hQ8.other (by omega) _).other (by omega) _, (by repeat (first | exact Below.refl _ _ | apply below_alloc | apply pw_below_drewN | apply below_drew1 | (refine Below.setCell ?_ (by first | (simp; done) | (simp; omega) | omega) _) | exact hB8))⟩
                case measure => simp [intOf]; omega
              · have hF2 := hfl.out hen
                subst hF2
                have hrb : (rf != 0) = true := by simp [hen]
                clear hen hfs hfl
                have q0 := (hQ8).at 0 _ rfl
                have q1 := (hQ8).at 1 _ rfl
                have q2 := (hQ8).free 0 _ rfl
                have q3 := (hQ8).free 1 _ rfl
                go_wp2_with fail
                refine bodyPost_ret (v := .tuple #[.agg #[.slice none 0 0, .slice none 0 0], .int .i64 rf]) (by simp [results, Tryd.results20, go_sem, *]) rfl ?_
                exact ⟨none, 0, none, 0, rfl, C_none _ _, C_none _ _, (by repeat (first | exact Below.refl _ _ | apply below_alloc | apply pw_below_drewN | apply below_drew1 | (refine Below.setCell ?_ (by first | (simp; done) | (simp; omega) | omega) _) | exact hB8))⟩
          · have hF2 := hff hxf
            subst hF2
            generalize entryFault x = f at *
            have hfb : (f != 0) = true := by simp [hxf]
            replace HF := Lib.hid HF
            clear hff hfs hxf hfl
            go_wp2_with fail
            refine HF.out.mono ?_
            rintro e w5 ⟨rfl, hb5⟩
            have hQ5 := hQ.below hb5 hqr
            have hB5 := hB.trans (hb5.mono hB.size)
            have q0 := (hQ5).at 0 _ rfl
            have q1 := (hQ5).at 1 _ rfl
            have q2 := (hQ5).free 0 _ rfl
            have q3 := (hQ5).free 1 _ rfl
            go_wp2_with fail
            refine bodyPost_ret (v := .tuple #[.agg #[.slice none 0 0, .slice none 0 0], .int .i64 f]) (by simp [results, Tryd.results20, go_sem, *]) rfl ?_
            exact ⟨none, 0, none, 0, rfl, C_none _ _, C_none _ _, (by repeat (first | exact Below.refl _ _ | apply below_alloc | apply pw_below_drewN | apply below_drew1 | (refine Below.setCell ?_ (by first | (simp; done) | (simp; omega) | omega) _) | exact hB5))⟩
        · obtain rfl : k = l.length := by omega
          rw [fold_end] at hF
          subst hF
          have i1 : ¬ (l.length : Int) < (l.length : Int) := by omega
          have k0 := hO.at 0 _ rfl
          have k1 := hO.at 1 _ rfl
          have q0 := hQ.at 0 _ rfl
          have q1 := hQ.at 1 _ rfl
          have q2 := hQ.free 0 _ rfl
          have q3 := hQ.free 1 _ rfl
          go_wp2_with fail
          refine bodyPost_ret (v := .tuple #[.agg #[.slice A' bs'.length c', .slice A3 es'.length c3], .int .i64 0]) (by simp [results, Tryd.results20, go_sem, *]) rfl ?_
          have hfin := fun u1 u2 => ((hrd.stored (r := w.heap.size + 1) (.inr rfl) 0 u1).stored (r := w.heap.size + 1) (.inr rfl) 1 u2).now
          exact ⟨A', c', A3, c3, rfl, (hfin _ _).1, (hfin _ _).2, (by repeat (first | exact Below.refl _ _ | apply below_alloc | apply pw_below_drewN | apply below_drew1 | (refine Below.setCell ?_ (by first | (simp; done) | (simp; omega) | omega) _) | exact hB))⟩
  · rw [show allV bs es l = (stFault bs es, [], []) by rw [allV, if_pos hf]]
    generalize stFault bs es = f at *
    have hfb : (f != 0) = true := by simp [hf]
    have hfb2 : (f == 0) = false := by simp [hf]
    replace HC := Lib.hid HC
    clear hf
    go_enter Tryd.func20, Tryd.ntmps20
    go_wp2_with fail
    rw [← hW2.out]
    refine HC.out.mono ?_
    rintro e w1 ⟨rfl, hb1⟩
    have hz1 := hb1.size
    have hQ1 := hQ0.below hb1 (by omega)
    have hB1 := hB0.trans (hb1.mono (by omega))
    have q0 := (hQ1).at 0 _ rfl
    have q1 := (hQ1).at 1 _ rfl
    have q2 := (hQ1).free 0 _ rfl
    have q3 := (hQ1).free 1 _ rfl
    go_wp2_with fail
    refine bodyPost_ret (v := .tuple #[.agg #[.slice none 0 0, .slice none 0 0], .int .i64 f]) (by simp [results, Tryd.results20, go_sem, *]) rfl ?_
    exact ⟨none, 0, none, 0, rfl, C_none _ _, C_none _ _, (by repeat (first | exact Below.refl _ _ | apply below_alloc | apply pw_below_drewN | apply below_drew1 | (refine Below.setCell ?_ (by first | (simp; done) | (simp; omega) | omega) _) | exact hB1))⟩
end Go.Proofs.YtijdghplfhfpaaaDoor.H

/- Batches: sameEntries and sameBatch. -/
namespace Go.Proofs.YtijdghplfhfpaaaDoor.H
open Go.RowKit Go.Proofs.YtijdghplfhfpaaaDoorW.PrintWords Go.Proofs.YtijdghplfhfpaaaDoorW.PrintLast Go.Proofs.YtijdghplfhfpaaaDoor.U
set_option linter.unusedVariables false
set_option linter.unusedSimpArgs false
attribute [local go_sem high] eqAEntry eqbAEntry_self
set_option maxHeartbeats 1000000 in
set_option maxRecDepth 100000 in
theorem sameEntries_calls (A : Option Addr) (c : Nat) (A2 : Option Addr) (c2 : Nat) (l : List AEntry) (w : World) (hr : Kd.C kAEntry w A l.length l) (hr2 : Kd.C kAEntry w A2 l.length l) :
    Calls Tryd.prog 22 #[.slice A l.length c, .slice A2 l.length c2] w fun e w' => e = .returned (.bool true) ∧ Below w.heap.size w w' := by
  have h63 := hr.2.1
  go_enter Tryd.func22, Tryd.ntmps22
  go_wp2
  go_loopw [5] (fun i wr => ∃ k : Nat, k ≤ l.length ∧ i = .int .i64 k ∧ ∃ q, wr = w.drewN q) (fun i _ => l.length - (intOf i).toNat)
  case atStart => exact ⟨0, Nat.zero_le _, rfl, 0, rfl⟩
  case round =>
    obtain ⟨k, hk, rfl, q, rfl⟩ := hrel
    by_cases hlt : k < l.length
    · obtain ⟨ad, e1, hx0, hxj⟩ := flat_at hr k hlt
      obtain ⟨ad2, e2, hy0, hyj⟩ := flat_at hr2 k hlt
      subst e1 e2
      have q0 := hx0 _ rfl; have q1 := hxj 1 _ (by decide) rfl; have q2 := hxj 2 _ (by decide) rfl; have q3 := hxj 3 _ (by decide) rfl; have q4 := hxj 4 _ (by decide) rfl; have q5 := hxj 5 _ (by decide) rfl
      have r0 := hy0 _ rfl; have r1 := hyj 1 _ (by decide) rfl; have r2 := hyj 2 _ (by decide) rfl; have r3 := hyj 3 _ (by decide) rfl; have r4 := hyj 4 _ (by decide) rfl; have r5 := hyj 5 _ (by decide) rfl
      clear hx0 hxj hy0 hyj
      have i0 : (0 : Int) ≤ (k : Int) := by omega
      have i1 : (k : Int) < (l.length : Int) := by omega
      go_wp2
      go_quiet (fail)
      go_wp2
      go_roundw
      case rel => exact ⟨k + 1, by omega, by go_num, _, rfl⟩
      case measure => simp [intOf]; omega
    · obtain rfl : k = l.length := by omega
      go_wp2
      go_ret
      exact ⟨rfl, by first | exact Below.refl _ _ | exact pw_below_drewN (Below.refl _ _) _⟩
set_option maxHeartbeats 1000000 in
set_option maxRecDepth 100000 in
theorem sameBatch_calls (u : Int) (A : Option Addr) (c : Nat) (A2 : Option Addr) (c2 : Nat) (l : List AEntry) (w : World) (hr : Kd.C kAEntry w A l.length l) (hr2 : Kd.C kAEntry w A2 l.length l) :
    Calls Tryd.prog 62 #[.agg #[.int .i64 u, .slice A l.length c], .agg #[.int .i64 u, .slice A2 l.length c2]] w fun e w' => e = .returned (.bool true) ∧ Below w.heap.size w w' := by
  have HS := Lib.hid (fun w hr hr2 => sameEntries_calls A c A2 c2 l w hr hr2)
  go_enter Tryd.func62, Tryd.ntmps62
  go_wp2_with fail
  refine (HS.out _ (Kd.C_below hr (by repeat (first | exact Below.refl _ _ | apply below_alloc | apply pw_below_drewN | apply below_drew1 | (refine Below.setCell ?_ (by first | (simp; done) | (simp; omega) | omega) _) ))) (Kd.C_below hr2 (by repeat (first | exact Below.refl _ _ | apply below_alloc | apply pw_below_drewN | apply below_drew1 | (refine Below.setCell ?_ (by first | (simp; done) | (simp; omega) | omega) _) )))).mono ?_
  rintro e w1 ⟨rfl, hb1⟩
  go_wp2_with fail
  go_ret
  exact ⟨(by first | rfl | (simp; done) | (simp [*]; done) | (rw [if_pos (by omega)]; first | rfl | (simp; done)) | (rw [if_neg (by omega)]; first | rfl | (simp; done)) | (simp; omega)), (by repeat (first | exact Below.refl _ _ | apply below_alloc | apply pw_below_drewN | apply below_drew1 | (refine Below.setCell ?_ (by first | (simp; done) | (simp; omega) | omega) _) | (refine below_then ?_ (by first | (simp; done) | (simp; omega) | omega) hb1)))⟩
end Go.Proofs.YtijdghplfhfpaaaDoor.H

/- States: sameState. -/
namespace Go.Proofs.YtijdghplfhfpaaaDoor.H
open Go.RowKit Go.Proofs.YtijdghplfhfpaaaDoorW.PrintWords Go.Proofs.YtijdghplfhfpaaaDoorW.PrintLast Go.Proofs.YtijdghplfhfpaaaDoor.U
set_option linter.unusedVariables false
set_option linter.unusedSimpArgs false
def eqbAMail (x y : AMail) : Bool := x.uid == y.uid && (x.flags == y.flags && (x.text.toList == y.text.toList))
theorem eqbAMail_iff {x y : AMail} : eqbAMail x y = true ↔ x = y := by
  cases x; cases y
  simp only [eqbAMail, Bool.and_eq_true, beq_iff_eq, ByteArray.toList_eq, bytes_iff, AMail.mk.injEq]
theorem eqbAMail_self (x : AMail) : eqbAMail x x = true := eqbAMail_iff.2 rfl
theorem eqAMail (d : Nat) (w : World) (x_uid : Int) (x_flags : Int) (x_text : ByteArray) (y_uid : Int) (y_flags : Int) (y_text : ByteArray) :
    (Op.equalIn (d + 2) 84 (.agg #[.int .i64 x_uid, .int .i64 x_flags, .string x_text]) (.agg #[.int .i64 y_uid, .int .i64 y_flags, .string y_text])).run Tryd.prog w = .ok (eqbAMail ⟨x_uid, x_flags, x_text⟩ ⟨y_uid, y_flags, y_text⟩) w := by
  refine eqA_of Tryd.underlying84 (by kernel_rfl) ?_
  refine eqf_cons (by rfl) (by go_simp; rfl) (by go_simp; rfl) (by go_simp) ?_
  refine eqf_cons (by rfl) (by go_simp; rfl) (by go_simp; rfl) (by go_simp) ?_
  exact eqf_last (by rfl) (by go_simp; rfl) (by go_simp; rfl) (by go_simp)
attribute [local go_sem high] eqAMail eqbAMail_self
set_option maxHeartbeats 2000000 in
set_option maxRecDepth 100000 in
theorem sameState_calls (A : Option Addr) (c : Nat) (A2 : Option Addr) (c2 : Nat) (B : Option Addr) (d : Nat) (B2 : Option Addr) (d2 : Nat) (bs : List ABox) (es : List AEntry) (w : World) (hr : kBox.C w A bs.length bs) (hr2 : Kd.C kAEntry w A2 es.length es) (hs : kBox.C w B bs.length bs) (hs2 : Kd.C kAEntry w B2 es.length es) :
    Calls Tryd.prog 21 #[.agg #[.slice A bs.length c, .slice A2 es.length c2], .agg #[.slice B bs.length d, .slice B2 es.length d2]] w fun e w' => e = .returned (.bool true) ∧ Below w.heap.size w w' := by
  have h63 := hr.2.1
  obtain ⟨W2, hW2⟩ : ∃ W2 : World, W2 = (w.alloc (.cells #[.slice A bs.length c, .slice A2 es.length c2] 25)).alloc (.cells #[.slice B bs.length d, .slice B2 es.length d2] 25) := ⟨_, rfl⟩
  have hP0 : Blk W2 w.heap.size [.slice A bs.length c, .slice A2 es.length c2] := by rw [hW2]; exact (Blk.made w _ _).alloc _
  have hQ0 : Blk W2 (w.heap.size + 1) [.slice B bs.length d, .slice B2 es.length d2] := by rw [hW2]; exact Blk.made_at _ _ _ (by simp)
  have hB0 : Below w.heap.size w W2 := by rw [hW2]; exact (by repeat (first | exact Below.refl _ _ | apply below_alloc | apply pw_below_drewN | apply below_drew1 | (refine Below.setCell ?_ (by first | (simp; done) | (simp; omega) | omega) _) ))
  have hz0 : W2.heap.size = w.heap.size + 2 := by rw [hW2]; simp
  replace hW2 := Lib.hid hW2
  have HE := Lib.hid (sameEntries_calls A2 c2 B2 d2 es W2 (Kd.C_below hr2 hB0) (Kd.C_below hs2 hB0))
  go_enter Tryd.func21, Tryd.ntmps21
  go_wp2_with fail
  rw [← hW2.out]
  refine HE.out.mono ?_
  rintro e w1 ⟨rfl, hb1⟩
  have hP1 := hP0.below hb1 (by omega)
  have hQ1 := hQ0.below hb1 (by omega)
  have hB1 := hB0.trans (hb1.mono (by omega))
  clear hP0 hQ0 hB0
  go_wp2_with fail
  go_loopw [5] (fun i wr => ∃ k : Nat, k ≤ bs.length ∧ i = .int .i64 k ∧ Blk wr w.heap.size [.slice A bs.length c, .slice A2 es.length c2] ∧ Blk wr (w.heap.size + 1) [.slice B bs.length d, .slice B2 es.length d2] ∧ Below w.heap.size w wr) (fun i _ => bs.length - (intOf i).toNat)
  case atStart => exact ⟨0, Nat.zero_le _, rfl, hP1, hQ1, hB1⟩
  case round =>
    clear hP1 hQ1 hB1
    obtain ⟨k, hk, rfl, hP, hQ, hB⟩ := hrel
    have hzp := hP.lt
    have hzq := hQ.lt
    have p0 := hP.at 0 _ rfl
    have q0 := hQ.at 0 _ rfl
    by_cases hlt : k < bs.length
    · obtain ⟨ad, Ae, ce, e1, x0, x1, x2, hC⟩ := box_at (Kd.C_below hr hB) k hlt
      obtain ⟨ad2, Be, de, e2, y0, y1, y2, hD⟩ := box_at (Kd.C_below hs hB) k hlt
      subst e1 e2
      rw [add1] at x1 y1
      rw [add2] at x2 y2
      obtain ⟨nm, nx, l, hbk⟩ : ∃ nm nx l, bs[k] = (nm, nx, l) := ⟨_, _, _, rfl⟩
      rw [hbk] at x0 x1 x2 y0 y1 y2 hC hD
      simp only at x0 x1 x2 y0 y1 y2 hC hD
      clear hbk
      have i0 : (0 : Int) ≤ (k : Int) := by omega
      have i1 : (k : Int) < (bs.length : Int) := by omega
      have hl63 := hC.2.1
      obtain ⟨W0, rfl⟩ : ∃ W0 : World, W0 = wr := ⟨_, rfl⟩
      have y0a := cell_alloc' y0 (.cells #[.string nm, .int .i64 nx, .slice Ae l.length ce] 77)
      have y1a := cell_alloc' y1 (.cells #[.string nm, .int .i64 nx, .slice Ae l.length ce] 77)
      have y2a := cell_alloc' y2 (.cells #[.string nm, .int .i64 nx, .slice Ae l.length ce] 77)
      obtain ⟨Wx, hWx⟩ : ∃ Wx : World, Wx = (W0.alloc (.cells #[.string nm, .int .i64 nx, .slice Ae l.length ce] 77)).alloc (.cells #[.string nm, .int .i64 nx, .slice Be l.length de] 77) := ⟨_, rfl⟩
      have hX : Blk Wx W0.heap.size [.string nm, .int .i64 nx, .slice Ae l.length ce] := by rw [hWx]; exact (Blk.made _ _ _).alloc _
      have hY : Blk Wx (W0.heap.size + 1) [.string nm, .int .i64 nx, .slice Be l.length de] := by rw [hWx]; exact Blk.made_at _ _ _ (by simp)
      have hbx : Below W0.heap.size W0 Wx := by rw [hWx]; exact (by repeat (first | exact Below.refl _ _ | apply below_alloc | apply pw_below_drewN | apply below_drew1 | (refine Below.setCell ?_ (by first | (simp; done) | (simp; omega) | omega) _) ))
      have hCx := Kd.C_below hC hbx
      have hDx := Kd.C_below hD hbx
      replace hWx := Lib.hid hWx
      go_wp2_with fail
      rw [← hWx.out]
      go_loopw [8] (fun i wz => ∃ j q : Nat, j ≤ l.length ∧ i = .int .i64 j ∧ wz = Wx.drewN q) (fun i _ => l.length - (intOf i).toNat)
      case atStart => exact ⟨0, 0, Nat.zero_le _, rfl, rfl⟩
      case round =>
        obtain ⟨j, q, hj, rfl, rfl⟩ := hrel
        have x2' := hX.at 2 _ rfl
        have y2' := hY.at 2 _ rfl
        by_cases hlj : j < l.length
        · obtain ⟨ad3, e3, hx0, hxj⟩ := flat_at hCx j hlj
          obtain ⟨ad4, e4, hy0, hyj⟩ := flat_at hDx j hlj
          subst e3 e4
          have m0 := hx0 _ rfl; have m1 := hxj 1 _ (by decide) rfl; have m2 := hxj 2 _ (by decide) rfl
          have n0 := hy0 _ rfl; have n1 := hyj 1 _ (by decide) rfl; have n2 := hyj 2 _ (by decide) rfl
          clear hx0 hxj hy0 hyj
          have j0 : (0 : Int) ≤ (j : Int) := by omega
          have j1 : (j : Int) < (l.length : Int) := by omega
          go_wp2_with fail
          go_quiet (fail)
          go_wp2_with fail
          go_roundw
          case rel => exact ⟨j + 1, _, by omega, by go_num, rfl⟩
          case measure => simp [intOf]; omega
        · obtain rfl : j = l.length := by omega
          have j1 : ¬ (l.length : Int) < (l.length : Int) := by omega
          have hbq : Below W0.heap.size W0 (Wx.drewN q) := pw_below_drewN hbx q
          go_wp2_with fail
          go_roundw
          case rel => exact ⟨k + 1, hlt, by go_num, hP.below hbq hzp, hQ.below hbq hzq, hB.trans (hbq.mono hB.size)⟩
          case measure => simp [intOf]; omega
    · obtain rfl : k = bs.length := by omega
      have i1 : ¬ (bs.length : Int) < (bs.length : Int) := by omega
      go_wp2_with fail
      go_ret
      exact ⟨(by first | rfl | (simp; done) | (simp [*]; done) | (rw [if_pos (by omega)]; first | rfl | (simp; done)) | (rw [if_neg (by omega)]; first | rfl | (simp; done)) | (simp; omega)), hB⟩
end Go.Proofs.YtijdghplfhfpaaaDoor.H

/- States as arguments: how they are read. -/
namespace Go.Proofs.YtijdghplfhfpaaaDoor.H
open Go.RowKit Go.Proofs.YtijdghplfhfpaaaDoorW.PrintWords Go.ChangeShapes Go.WideShapes Go.Proofs.YtijdghplfhfpaaaDoor.U Go.Proofs.YtijdghplfhfpaaaDoor.UB
set_option linter.unusedVariables false
def okAEntry (x : AEntry) : Prop := (Lit.int .i64 x.kind).wf = true ∧ x.box.size ≤ bulkTop ∧ (Lit.int .i64 x.uid).wf = true ∧ (Lit.int .i64 x.flags).wf = true ∧ x.to_.size ≤ bulkTop ∧ x.text.size ≤ bulkTop
theorem opens_AEntry {n : Nat} : OpensN Tryd.prog n 40 kAEntry okAEntry := by
  intro H enc W base spare held cs x h hm
  obtain ⟨⟨a0, a1, a2, a3, a4, a5⟩, hk, ⟨h0_, h1_, h2_, h3_, h4_, h5_⟩⟩ := (opens_struct Tryd.underlying40 (len := 6) (by kernel_rfl) (fun _ _ => (opensF_cons rfl (by kernel_rfl) (opens_int Tryd.underlying3) (opensF_cons rfl (by kernel_rfl) (opens_string Tryd.underlying9) (opensF_cons rfl (by kernel_rfl) (opens_int Tryd.underlying3) (opensF_cons rfl (by kernel_rfl) (opens_int Tryd.underlying3) (opensF_cons rfl (by kernel_rfl) (opens_string Tryd.underlying9) (opensF_one rfl (by kernel_rfl) (opens_string Tryd.underlying9))))))))) enc W base spare held cs x h hm
  obtain ⟨_, _, rfl, rfl, ⟨_, _, rfl, rfl, ⟨_, _, rfl, rfl, ⟨_, _, rfl, rfl, ⟨_, _, rfl, rfl, rfl⟩⟩⟩⟩⟩ := hk
  exact ⟨⟨a0, a1, a2, a3, a4, a5⟩, rfl, h0_, h1_, h2_, h3_, h4_, h5_⟩
def okAMail (x : AMail) : Prop := (Lit.int .i64 x.uid).wf = true ∧ (Lit.int .i64 x.flags).wf = true ∧ x.text.size ≤ bulkTop
theorem opens_AMail {n : Nat} : OpensN Tryd.prog n 84 kAMail okAMail := by
  intro H enc W base spare held cs x h hm
  obtain ⟨⟨a0, a1, a2⟩, hk, ⟨h0_, h1_, h2_⟩⟩ := (opens_struct Tryd.underlying84 (len := 3) (by kernel_rfl) (fun _ _ => (opensF_cons rfl (by kernel_rfl) (opens_int Tryd.underlying3) (opensF_cons rfl (by kernel_rfl) (opens_int Tryd.underlying3) (opensF_one rfl (by kernel_rfl) (opens_string Tryd.underlying9)))))) enc W base spare held cs x h hm
  obtain ⟨_, _, rfl, rfl, ⟨_, _, rfl, rfl, rfl⟩⟩ := hk
  exact ⟨⟨a0, a1, a2⟩, rfl, h0_, h1_, h2_⟩
def okBoxIn (b : ABox) : Prop := b.1.size ≤ bulkTop ∧ (Lit.int .i64 b.2.1).wf = true ∧ (b.2.2.length ≤ bulkTop ∧ ∀ m ∈ b.2.2, okAMail m)
theorem opens_box {n : Nat} : OpensN Tryd.prog n 77 kBox okBoxIn :=
  opens_struct Tryd.underlying77 (len := 3) (by kernel_rfl) (fun m _ => opensF_cons rfl (by kernel_rfl) (opens_string Tryd.underlying9)
    (opensF_cons rfl (by kernel_rfl) (opens_int Tryd.underlying3) (opensF_one rfl (by kernel_rfl) (opens_slice Tryd.underlying75 (by kernel_rfl) (fun _ _ => opens_AMail)))))
def kState : Kd (List ABox × List AEntry) := Kd.pair (Kd.slice 77 kBox) (Kd.slice 40 kAEntry)
def okStateIn (s : List ABox × List AEntry) : Prop := (s.1.length ≤ bulkTop ∧ ∀ b ∈ s.1, okBoxIn b) ∧ (s.2.length ≤ bulkTop ∧ ∀ x ∈ s.2, okAEntry x)
theorem opens_state {n : Nat} : OpensN Tryd.prog n 25 kState okStateIn :=
  opens_struct Tryd.underlying25 (len := 2) (by kernel_rfl) (fun m _ => opensF_cons rfl (by kernel_rfl) (opens_slice Tryd.underlying22 (by kernel_rfl) (fun _ _ => opens_box))
    (opensF_one rfl (by kernel_rfl) (opens_slice Tryd.underlying23 (by kernel_rfl) (fun _ _ => opens_AEntry))))
theorem okSt_of {s : List ABox × List AEntry} (h : okStateIn s) : okSt s.1 s.2 := ⟨fun b hb => (h.1.2 b hb).1, fun x hx => ⟨(h.2.2 x hx).2.1, (h.2.2 x hx).2.2.2.2.1, (h.2.2 x hx).2.2.2.2.2⟩⟩
end Go.Proofs.YtijdghplfhfpaaaDoor.H

/- The law BoxApplies answers true at every state and entry of small bulk: box.Apply answers as the reference's Entered of that entry alone, and changes nothing. -/
namespace Go.Proofs.YtijdghplfhfpaaaDoor.H
open Go.RowKit Go.Proofs.YtijdghplfhfpaaaDoorW.PrintWords Go.Proofs.YtijdghplfhfpaaaDoorW.PrintLast Go.Proofs.YtijdghplfhfpaaaDoor.U
set_option linter.unusedVariables false
set_option linter.unusedSimpArgs false
theorem lit_entry (W : World) (x : AEntry) : Kd.C kAEntry (W.alloc (.cells #[.int .i64 x.kind, .string x.box, .int .i64 x.uid, .int .i64 x.flags, .string x.to_, .string x.text] 40)) (some ⟨W.heap.size, 0, none⟩) 1 [x] :=
  (Kd.R_reads' (R_lit1 kAEntry flat_kd 40 W x [.int .i64 x.kind, .string x.box, .int .i64 x.uid, .int .i64 x.flags, .string x.to_, .string x.text] rfl)).2.2
set_option maxHeartbeats 2000000 in
set_option maxRecDepth 100000 in
theorem applyTop_calls (A : Option Addr) (c : Nat) (bs : List ABox) (A2 : Option Addr) (c2 : Nat) (es : List AEntry) (x : AEntry) (m : Int) (w : World) (hr : kBox.C w A bs.length bs) (hc : bs.length ≤ c) (hr2 : Kd.C kAEntry w A2 es.length es) (hs : okSt bs es)
    (hx : okE x) (hm : w.cell? ⟨6, 0, none⟩ = some (.int .i64 m)) (hg : 6 < w.heap.size) :
    Calls Tryd.prog 23 #[.agg #[.slice A bs.length c, .slice A2 es.length c2], .agg #[.int .i64 x.kind, .string x.box, .int .i64 x.uid, .int .i64 x.flags, .string x.to_, .string x.text]] w (PostAll w (allV bs es [x])) := by
  obtain ⟨W3, hW3⟩ : ∃ W3 : World, W3 = ((w.alloc (.cells #[.slice A bs.length c, .slice A2 es.length c2] 25)).alloc (.cells #[.int .i64 x.kind, .string x.box, .int .i64 x.uid, .int .i64 x.flags, .string x.to_, .string x.text] 40)).alloc (.cells #[.slice none 0 0, .slice none 0 0] 25) := ⟨_, rfl⟩
  have hQ3 : Blk W3 (w.heap.size + 1 + 1) [.slice none 0 0, .slice none 0 0] := by rw [hW3]; exact Blk.made_at _ _ _ (by simp)
  have hz3 : W3.heap.size = w.heap.size + 1 + 1 + 1 := by rw [hW3]; simp
  obtain ⟨W4, hW4⟩ : ∃ W4 : World, W4 = W3.alloc (.cells #[.int .i64 x.kind, .string x.box, .int .i64 x.uid, .int .i64 x.flags, .string x.to_, .string x.text] 40) := ⟨_, rfl⟩
  have hQ4 : Blk W4 (w.heap.size + 1 + 1) [.slice none 0 0, .slice none 0 0] := by rw [hW4]; exact hQ3.alloc _
  have hL4 : Kd.C kAEntry W4 (some ⟨w.heap.size + 1 + 1 + 1, 0, none⟩) 1 [x] := by rw [hW4, ← hz3]; exact lit_entry W3 x
  have hB4 : Below w.heap.size w W4 := by rw [hW4, hW3]; exact (by repeat (first | exact Below.refl _ _ | apply below_alloc | apply pw_below_drewN | apply below_drew1 | (refine Below.setCell ?_ (by first | (simp; done) | (simp; omega) | omega) _) ))
  have hz4 : W4.heap.size = w.heap.size + 1 + 1 + 1 + 1 := by rw [hW4]; simp [hz3]
  have H1 := all_calls A c bs A2 c2 es (some ⟨w.heap.size + 1 + 1 + 1, 0, none⟩) 1 [x] m W4 (Kd.C_below hr hB4) hc (Kd.C_below hr2 hB4) hs hL4 (fun y hy => by rw [List.mem_singleton.1 hy]; exact hx) (cell_below hB4 hm hg) (by omega)
  generalize allV bs es [x] = R at *
  obtain ⟨rf, rb, re⟩ := R
  replace H1 := Lib.hid H1
  rw [hW3] at hW4
  replace hW4 := Lib.hid hW4
  clear hQ3 hW3 hL4
  go_enter Tryd.func23, Tryd.ntmps23
  go_wp2_with fail
  rw [← hW4.out]
  refine H1.out.mono ?_
  rintro e w5 ⟨vB, vS, rfl, hS5, hE5, hb5⟩
  obtain ⟨A5, c5, rfl⟩ := Kd.S_slice hS5
  obtain ⟨A6, c6, rfl⟩ := Kd.R_slice hE5
  have hQ5 := hQ4.below hb5 (by omega)
  have hz5 := hb5.size
  have hB5 := hB4.trans (hb5.mono (by omega))
  have q0 := hQ5.at 0 _ rfl
  have q1 := hQ5.at 1 _ rfl
  have q2 := hQ5.free 0 _ rfl
  have q3 := hQ5.free 1 _ rfl
  go_wp2_with fail
  refine bodyPost_ret (v := .tuple #[.agg #[.slice A5 rb.length c5, .slice A6 re.length c6], .int .i64 rf]) (by simp [results, Tryd.results23, go_sem, *]) rfl ?_
  refine ⟨_, _, rfl, ?_, ?_, (by repeat (first | exact Below.refl _ _ | apply below_alloc | apply pw_below_drewN | apply below_drew1 | (refine Below.setCell ?_ (by first | (simp; done) | (simp; omega) | omega) _) | exact hB5))⟩
  · exact Kd.S_lower (S_elder (S_elder hS5 (show w.heap.size + 1 + 1 < W4.heap.size by omega) _) (show w.heap.size + 1 + 1 < W4.heap.size by omega) _) (by omega)
  · exact Kd.R_lower (R_elder (R_elder hE5 (show w.heap.size + 1 + 1 < W4.heap.size by omega) _) (show w.heap.size + 1 + 1 < W4.heap.size by omega) _) (by omega)
set_option maxHeartbeats 2000000 in
set_option maxRecDepth 100000 in
theorem boxApplies_walk (A : Option Addr) (c : Nat) (bs : List ABox) (A2 : Option Addr) (c2 : Nat) (es : List AEntry) (x : AEntry) (m : Int) (w : World) (hr : kBox.C w A bs.length bs) (hc : bs.length ≤ c) (hr2 : Kd.C kAEntry w A2 es.length es) (hs : okSt bs es)
    (hl1 : bs.length ≤ 1048576) (hl2 : es.length ≤ 1048576) (hl3 : ∀ b ∈ bs, b.2.2.length ≤ 1048576) (hx : okE x)
    (hm : w.cell? ⟨6, 0, none⟩ = some (.int .i64 m)) (hg : 6 < w.heap.size) :
    Calls Tryd.prog 6 #[.agg #[.slice A bs.length c, .slice A2 es.length c2], .agg #[.int .i64 x.kind, .string x.box, .int .i64 x.uid, .int .i64 x.flags, .string x.to_, .string x.text]] w fun e w' => e = .returned (.bool true) ∧ Below w.heap.size w w' := by
  obtain ⟨W0, hW0⟩ : ∃ W0 : World, W0 = (w.alloc (.cells #[.slice A bs.length c, .slice A2 es.length c2] 25)).alloc (.cells #[.int .i64 x.kind, .string x.box, .int .i64 x.uid, .int .i64 x.flags, .string x.to_, .string x.text] 40) := ⟨_, rfl⟩
  have hk0 : Blk W0 w.heap.size [.slice A bs.length c, .slice A2 es.length c2] := by rw [hW0]; exact (Blk.made _ _ _).alloc _
  have hx0 : Blk W0 (w.heap.size + 1) [.int .i64 x.kind, .string x.box, .int .i64 x.uid, .int .i64 x.flags, .string x.to_, .string x.text] := by rw [hW0]; exact Blk.made_at _ _ _ (by simp)
  have hB0 : Below w.heap.size w W0 := by rw [hW0]; exact (by repeat (first | exact Below.refl _ _ | apply below_alloc | apply pw_below_drewN | apply below_drew1 | (refine Below.setCell ?_ (by first | (simp; done) | (simp; omega) | omega) _) ))
  have hz0 : W0.heap.size = w.heap.size + 2 := by rw [hW0]; simp
  replace hW0 := Lib.hid hW0
  have HS := Lib.hid (states_calls A c bs A2 c2 es _ (Kd.C_below hr hB0) (Kd.C_below hr2 hB0) hl1 hl2 hl3)
  have H1 := fun A c A2 c2 w hr hc hr2 hm hg => applyTop_calls A c bs A2 c2 es x m w hr hc hr2 hs hx hm hg
  have H2 := fun Al w hr hr2 hrl => enteredTop_calls A c bs A2 c2 es Al 1 [x] w hr hc hr2 hs hrl (fun y hy => by rw [List.mem_singleton.1 hy]; exact hx)
  generalize allV bs es [x] = R at *
  obtain ⟨rf, rb, re⟩ := R
  replace H1 := Lib.hid H1
  replace H2 := Lib.hid H2
  go_enter Tryd.func6, Tryd.ntmps6
  go_wp2_with fail
  rw [← hW0.out]
  refine HS.out.mono ?_
  rintro e w1 ⟨vB, vS, rfl, hSB, hSE, hb1⟩
  obtain ⟨A1, c1, rfl, hc1, hC1⟩ := Kd.S_reads hSB
  obtain ⟨A3, c3, rfl, hc3, hC3⟩ := C_of hSE
  have hz1 := hb1.size
  obtain ⟨W2, hW2⟩ : ∃ W2 : World, W2 = w1.alloc (.cells #[.slice A1 bs.length c1, .slice A3 es.length c3] 25) := ⟨_, rfl⟩
  have hk2 : Blk W2 w.heap.size [.slice A bs.length c, .slice A2 es.length c2] := by rw [hW2]; exact (hk0.below hb1 (by omega)).alloc _
  have hx2 : Blk W2 (w.heap.size + 1) [.int .i64 x.kind, .string x.box, .int .i64 x.uid, .int .i64 x.flags, .string x.to_, .string x.text] := by rw [hW2]; exact (hx0.below hb1 (by omega)).alloc _
  have hc2k : Blk W2 w1.heap.size [.slice A1 bs.length c1, .slice A3 es.length c3] := by rw [hW2]; exact Blk.made _ _ _
  have hB2 : Below w.heap.size w W2 := by rw [hW2]; exact below_alloc' (hB0.trans (hb1.mono (by omega))) (by omega) _
  have hC1a : kBox.C W2 A1 bs.length bs := by rw [hW2]; exact Kd.C_below hC1 (by repeat (first | exact Below.refl _ _ | apply below_alloc | apply pw_below_drewN | apply below_drew1 | (refine Below.setCell ?_ (by first | (simp; done) | (simp; omega) | omega) _) ))
  have hC3a : Kd.C kAEntry W2 A3 es.length es := by rw [hW2]; exact Kd.C_below hC3 (by repeat (first | exact Below.refl _ _ | apply below_alloc | apply pw_below_drewN | apply below_drew1 | (refine Below.setCell ?_ (by first | (simp; done) | (simp; omega) | omega) _) ))
  have hz2 : W2.heap.size = w1.heap.size + 1 := by rw [hW2]; simp
  have hx1 := hx0.below hb1 (by omega)
  have y0 := hx1.at 0 _ rfl
  have y1 := hx1.at 1 _ rfl
  have y2 := hx1.at 2 _ rfl
  have y3 := hx1.at 3 _ rfl
  have y4 := hx1.at 4 _ rfl
  have y5 := hx1.at 5 _ rfl
  have hlx : w.heap.size + 1 < w1.heap.size := by omega
  replace hW2 := Lib.hid hW2
  clear hk0 hB0 hSB hSE hb1 hC1 hC3 hx0 hx1
  go_wp2_with fail
  rw [← hW2.out]
  refine (H1.out _ _ _ _ _ hC1a hc1 hC3a (cell_below hB2 hm hg) (by omega)).mono ?_
  rintro e w4 ⟨vB4, vS4, rfl, hS4, hE4, hb4⟩
  obtain ⟨A5, c5, rfl, hc5, hC5⟩ := Kd.S_reads hS4
  obtain ⟨A6, c6, rfl, hc6, hC6⟩ := C_of hE4
  have hz4 := hb4.size
  obtain ⟨W5, hW5⟩ : ∃ W5 : World, W5 = w4.alloc (.cells #[.slice A5 rb.length c5, .slice A6 re.length c6] 25) := ⟨_, rfl⟩
  have hz5 : W5.heap.size = w4.heap.size + 1 := by rw [hW5]; simp
  have ha5 : Blk W5 w4.heap.size [.slice A5 rb.length c5, .slice A6 re.length c6] := by rw [hW5]; exact Blk.made _ _ _
  have hb25 : Below W2.heap.size W2 W5 := by rw [hW5]; exact below_alloc' hb4 (by omega) _
  have hC5a : kBox.C W5 A5 rb.length rb := by rw [hW5]; exact Kd.C_below hC5 (by repeat (first | exact Below.refl _ _ | apply below_alloc | apply pw_below_drewN | apply below_drew1 | (refine Below.setCell ?_ (by first | (simp; done) | (simp; omega) | omega) _) ))
  have hC6a : Kd.C kAEntry W5 A6 re.length re := by rw [hW5]; exact Kd.C_below hC6 (by repeat (first | exact Below.refl _ _ | apply below_alloc | apply pw_below_drewN | apply below_drew1 | (refine Below.setCell ?_ (by first | (simp; done) | (simp; omega) | omega) _) ))
  obtain ⟨W6, hW6⟩ : ∃ W6 : World, W6 = W5.alloc (.cells #[.int .i64 x.kind, .string x.box, .int .i64 x.uid, .int .i64 x.flags, .string x.to_, .string x.text] 40) := ⟨_, rfl⟩
  have hb56 : Below W5.heap.size W5 W6 := by rw [hW6]; exact (by repeat (first | exact Below.refl _ _ | apply below_alloc | apply pw_below_drewN | apply below_drew1 | (refine Below.setCell ?_ (by first | (simp; done) | (simp; omega) | omega) _) ))
  have hL6 : Kd.C kAEntry W6 (some ⟨w4.heap.size + 1, 0, none⟩) 1 [x] := by rw [hW6, ← hz5]; exact lit_entry W5 x
  have hz6 : W6.heap.size = w4.heap.size + 1 + 1 := by rw [hW6]; simp [hz5]
  have hb26 := hb25.trans (hb56.mono hb25.size)
  have hB6 := hB2.trans (hb26.mono (by omega))
  have hk6 := hk2.below hb26 (by omega)
  have hc6k := hc2k.below hb26 (by omega)
  have ha6 := ha5.below hb56 (by omega)
  have hC5b := Kd.C_below hC5a hb56
  have hC6b := Kd.C_below hC6a hb56
  have hC1b := Kd.C_below hC1a hb26
  have hC3b := Kd.C_below hC3a hb26
  have hk4 := hk2.below hb4 (by omega)
  have hx4 := hx2.below hb4 (by omega)
  have k50 := hk4.at 0 _ rfl
  have k51 := hk4.at 1 _ rfl
  have v0 := hx4.at 0 _ rfl
  have v1 := hx4.at 1 _ rfl
  have v2 := hx4.at 2 _ rfl
  have v3 := hx4.at 3 _ rfl
  have v4 := hx4.at 4 _ rfl
  have v5 := hx4.at 5 _ rfl
  have kz5 : w.heap.size + 1 < w4.heap.size := by omega
  have kz6 : w.heap.size < w4.heap.size := by omega
  rw [hW5] at hW6
  replace hW6 := Lib.hid hW6
  clear hk2 hx2 hc2k hB2 hC1a hC3a hS4 hE4 hC5 hC6 hb4 hb25 hb26 hb56 ha5 hC5a hC6a hk4 hx4 y0 y1 y2 y3 y4 y5 hW5
  go_wp2_with fail
  rw [← hW6.out]
  refine (H2.out _ _ (Kd.C_below hr hB6) (Kd.C_below hr2 hB6) hL6).mono ?_
  rintro e w6 ⟨A7, c7, A8, c8, rfl, hC7, hC8, hb6⟩
  simp only at hC7 hC8 ⊢
  have hz6' := hb6.size
  obtain ⟨W7, hW7⟩ : ∃ W7 : World, W7 = w6.alloc (.cells #[.slice A7 rb.length c7, .slice A8 re.length c8] 25) := ⟨_, rfl⟩
  have hk7 : Blk W7 w.heap.size [.slice A bs.length c, .slice A2 es.length c2] := by rw [hW7]; exact (hk6.below hb6 (by omega)).alloc _
  have hc7k : Blk W7 w1.heap.size [.slice A1 bs.length c1, .slice A3 es.length c3] := by rw [hW7]; exact (hc6k.below hb6 (by omega)).alloc _
  have hb67 : Below W6.heap.size W6 W7 := by rw [hW7]; exact below_alloc' hb6 (by omega) _
  have hC7a : kBox.C W7 A7 rb.length rb := by rw [hW7]; exact Kd.C_below hC7 (by repeat (first | exact Below.refl _ _ | apply below_alloc | apply pw_below_drewN | apply below_drew1 | (refine Below.setCell ?_ (by first | (simp; done) | (simp; omega) | omega) _) ))
  have hC8a : Kd.C kAEntry W7 A8 re.length re := by rw [hW7]; exact Kd.C_below hC8 (by repeat (first | exact Below.refl _ _ | apply below_alloc | apply pw_below_drewN | apply below_drew1 | (refine Below.setCell ?_ (by first | (simp; done) | (simp; omega) | omega) _) ))
  have hB7 := hB6.trans (hb67.mono (by omega))
  have hz7 : W7.heap.size = w6.heap.size + 1 := by rw [hW7]; simp
  have a70 := (ha6.below hb6 (by omega)).at 0 _ rfl
  have a71 := (ha6.below hb6 (by omega)).at 1 _ rfl
  have az7 : w4.heap.size < w6.heap.size := by omega
  have S1 := Lib.hid (sameState_calls A5 c5 A6 c6 A7 c7 A8 c8 rb re W7 (Kd.C_below hC5b hb67) (Kd.C_below hC6b hb67) hC7a hC8a)
  have S2 := Lib.hid (fun W (h : Below W7.heap.size W7 W) => sameState_calls A1 c1 A3 c3 A c A2 c2 bs es W (Kd.C_below (Kd.C_below hC1b hb67) h) (Kd.C_below (Kd.C_below hC3b hb67) h) (Kd.C_below (Kd.C_below hr hB7) h) (Kd.C_below (Kd.C_below hr2 hB7) h))
  replace hW7 := Lib.hid hW7
  clear hk6 hc6k hB6 hC5b hC6b hC1b hC3b ha6 hC7 hC8 hC7a hC8a hb6 hb67 k50 k51 kz5 kz6 v0 v1 v2 v3 v4 v5 hL6
  go_wp2_with fail
  rw [← hW7.out]
  refine S1.out.mono ?_
  rintro e w8 ⟨rfl, hb8⟩
  have hz8 := hb8.size
  have hk8 := hk7.below hb8 (by omega)
  have hc8k := hc7k.below hb8 (by omega)
  have k0 := hk8.at 0 _ rfl
  have k1 := hk8.at 1 _ rfl
  have m0 := hc8k.at 0 _ rfl
  have m1 := hc8k.at 1 _ rfl
  clear a70 a71 az7
  go_wp2_with fail
  refine (S2.out _ hb8).mono ?_
  rintro e w9 ⟨rfl, hb9⟩
  have hb89 := hb8.trans (hb9.mono (by omega))
  go_wp2_with fail
  go_ret
  exact ⟨(by first | rfl | (simp; done) | (simp [*]; done) | (rw [if_pos (by omega)]; first | rfl | (simp; done)) | (rw [if_neg (by omega)]; first | rfl | (simp; done)) | (simp; omega)), hB7.trans (hb89.mono hB7.size)⟩
end Go.Proofs.YtijdghplfhfpaaaDoor.H
namespace Go.Proofs.YtijdghplfhfpaaaDoor.boxApplies
open Go.ChangeShapes Go.WideShapes Go.ChangeAt Go.RowKit Go.Proofs.YtijdghplfhfpaaaDoorW.PrintWords Go.Proofs.YtijdghplfhfpaaaDoor.U Go.Proofs.YtijdghplfhfpaaaDoor.UB Go.Proofs.YtijdghplfhfpaaaDoor.H
open Go.ChangeMaps (open_string shut_string)
set_option linter.unusedVariables false
set_option maxRecDepth 100000
theorem own : ownKnob Tryd.prog.godebug = none := by kernel_rfl
theorem laidOut : laidOutB Tryd.prog = true := by kernel_rfl
set_option maxRecDepth 100000 in
theorem lifted (os : Os) (started : os.Started) (H : Type) (enc : TypeId × Value → H) (F : Stop.Interp) :
    ReturnsInHanded {} Tryd.checked os 6 .any ((Rows.OpenSpec.upto Rows.boxAppliesSpec).preRow enc Tryd.prog Tryd.f6 Rows.boxAppliesUptoRow.domain false Rows.boxAppliesUptoRow.laid) (((Rows.OpenSpec.upto Rows.boxAppliesSpec).at F).post enc Tryd.prog Tryd.f6 false true false false) := by
  refine returnsInHanded_of_row (C := Tryd.checked) (s := Rows.OpenSpec.upto Rows.boxAppliesSpec) own started (by kernel_rfl) Tryd.func6
    (witness_up (enc := enc) (C := Tryd.checked) (s := Rows.OpenSpec.upto Rows.boxAppliesSpec) (laid := Rows.boxAppliesUptoRow.laid) os #[.agg #[.slice none 0 0, .slice none 0 0], .agg #[.int .i64 0, .string ⟨#[]⟩, .int .i64 0, .int .i64 0, .string ⟨#[]⟩, .string ⟨#[]⟩]] 8 (World.shaped_of_ZipB (by kernel_rfl) (by kernel_rfl)) (by kernel_rfl) ([.agg [.nil, .nil], .agg [.lit (.int .i64 0), .lit (.string []), .lit (.int .i64 0), .lit (.int .i64 0), .lit (.string []), .lit (.string [])]], [], []) (by kernel_rfl) (by kernel_rfl)
      (fun k hk => by cases hk; kernel_rfl) (by kernel_rfl)
      (by rw [MakeChecks.laidMetH_plain _ _ _ (by kernel_rfl)]; exact laidMet_laidAll _ (by kernel_rfl) (by kernel_rfl))) ?_
  intro W base args ds gs before hval0 hW hcnd hcond hsz hL hsh _
  have hk : Rows.uptoSmall H (ds ++ gs) = true := hcond _ rfl
  have hval : ∀ (j : Nat) t v, Tryd.f6.params[j]? = some t → args[j]? = some v → Value.okWide Tryd.prog W .any base t v := hval0
  have hW' := hW
  obtain ⟨p, q, hA0, hV, rfl, hfz, hnd⟩ := hW
  have hA : DataW.TrodAll enc Tryd.prog W 0 (fun _ => true) true Tryd.f6.params.toList args.toList ds p := hA0
  rw [Tryd.params6] at hA hval
  rw [MakeChecks.laidMetH_plain _ _ _ (by kernel_rfl)] at hL
  obtain ⟨ps, hL, hLn, hLc⟩ := hL
  obtain ⟨v0, vs0, d0, ds0, p0, q0, hargs, rfl, rfl, h0, r0⟩ := trodAll_cons hA
  obtain ⟨v1, vs1, d1, ds1, p1, q1, rfl, rfl, rfl, h1, r1⟩ := trodAll_cons r0
  obtain ⟨rfl, rfl, rfl⟩ := trodAll_nil r1
  obtain rfl : args = #[v0, v1] := by cases args; simp_all
  obtain ⟨rfl, rfl⟩ := trodVars_none hV
  have lt0 : ∀ x ∈ p0, x.block < W.heap.size := by obtain ⟨m, hm⟩ := h0; exact DataW.trod_lt m _ _ _ hm
  have lt1 : ∀ x ∈ p1, x.block < W.heap.size := by obtain ⟨m, hm⟩ := h1; exact DataW.trod_lt m _ _ _ hm
  obtain ⟨⟨bs, es⟩, cs, rfl, ⟨c0, c1, hcs, ⟨A, c, rfl, hl, hr⟩, ⟨A2, c2, rfl, hl2, hr2⟩⟩, hok⟩ := arg_struct Tryd.underlying25 (hval 0 _ v0 rfl rfl) h0 (bulk_arg hk (j := 0) rfl) (fun n => opens_state)
  obtain rfl : cs = #[.slice A bs.length c, .slice A2 es.length c2] := by cases cs; simpa using hcs
  obtain ⟨x, cx, rfl, hcx, hokx⟩ := arg_struct Tryd.underlying40 (hval 1 _ v1 rfl rfl) h1 (bulk_arg hk (j := 1) rfl) (fun n => opens_AEntry)
  obtain rfl : cx = #[.int .i64 x.kind, .string x.box, .int .i64 x.uid, .int .i64 x.flags, .string x.to_, .string x.text] := by cases cx; simpa [kAEntry, flatKd, AEntry.enc] using hcx
  obtain ⟨m, hm⟩ := cell_of_shapedOpen_int (g := 6) (zero := #[.int .i64 0]) hsh (of_decide_eq_true (by kernel_rfl)) (by kernel_rfl) (by kernel_rfl) (by kernel_rfl) (by kernel_rfl) Tryd.underlying3
  refine (boxApplies_walk A c bs A2 c2 es x m W hr hl hr2 (okSt_of hok) hok.1.1 hok.2.1 (fun b hb => (hok.1.2 b hb).2.2.1) ⟨hokx.2.1, hokx.2.2.2.2.1, hokx.2.2.2.2.2⟩ hm (lt_of_cell hm)).mono fun e W' ⟨he, bel⟩ => ?_
  subst he
  refine ⟨_, rfl, _, _, _, [], _, [], hW', trodAll_mk1 (shut_bool Tryd.underlying4 _), (trodAll_cons_mk (Below.trod laidOut (by kernel_rfl) (of_decide_eq_true (by kernel_rfl)) h0 bel lt0) (trodAll_cons_mk (Below.trod laidOut (by kernel_rfl) (of_decide_eq_true (by kernel_rfl)) h1 bel lt1) trodAll_mk0)), rfl, bel.frame _, fun h => by cases h⟩
theorem over : Rows.boxAppliesUptoRow.holds Tryd.pinned (Rows.OpenSpec.upto Rows.boxAppliesSpec) :=
  OpenClaim.holds_of_cond 6 Tryd.f6 rfl rfl rfl rfl rfl rfl rfl ⟨rfl, rfl, rfl, rfl, rfl⟩ rfl rfl rfl rfl rfl (by kernel_rfl) Tryd.func6 (by kernel_rfl)
    (of_decide_eq_true (by kernel_rfl)) (by unfold Func.isWrapper; first | (rw [if_pos (by decide +kernel)]; kernel_rfl) | (rw [if_neg (by decide +kernel)]; exact ⟨rfl, rfl⟩))
    (fun os started H enc _ F => by rw [OpenClaim.pre_eq_preRow]; exact lifted os started H enc F)
theorem card : Rows.BoxAppliesUptoCardSaid :=
  Claim7.holds_tied_plain_at .later [] _ _ _ _ over (fun _ h => by cases h) (by kernel_rfl) (fun _ h => by cases h) boxAppliesUpto_row_tie rfl ⟨rfl, rfl⟩ (by kernel_rfl) rfl
    (fun f fn hf hfn => by
      obtain rfl : f = 6 := Option.some.inj ((show Tryd.prog.funcNamed "postroom/postroomlaw.BoxApplies" = some 6 by kernel_rfl).symm.trans hf) |>.symm
      obtain rfl : fn = Tryd.f6 := (Option.some.inj (Tryd.func6.symm.trans hfn)).symm
      exact ⟨by kernel_rfl, fun j t ht => by
        have hm : t ∈ Tryd.f6.params.toList := by simpa using Array.mem_of_getElem? ht
        have hall : (Tryd.f6.params.toList.all fun u => !Tryd.prog.wantsStandIn u) = true := by kernel_rfl
        exact (show Tryd.prog.wantsStandIn t = false by simpa using List.all_eq_true.1 hall t hm)⟩)
    (by kernel_rfl)
end Go.Proofs.YtijdghplfhfpaaaDoor.boxApplies
namespace Go.Proofs.YtijdghplfhfpaaaDoor
theorem boxApplies_holds : Rows.BoxAppliesUptoCardSaid := boxApplies.card
#print axioms boxApplies_holds
end Go.Proofs.YtijdghplfhfpaaaDoor
