/- The claim ScriptShowsUptoCardSaid, part 6 of 8. -/
import Derived.Test.YtijdghplfhfpaaaDoorScriptShowsK5
import Derived.Test.YtijdghplfhfpaaaDoorScriptShowsK1
import Derived.Test.YtijdghplfhfpaaaDoorScriptShowsK3
/- Scripts: the reference's form of tests: the contract; In as a truth. -/
namespace Go.Proofs.YtijdghplfhfpaaaDoor.H
open Go.RowKit Go.Proofs.YtijdghplfhfpaaaDoorW.PrintWords Go.Proofs.YtijdghplfhfpaaaDoorW.PrintLast Go.Proofs.YtijdghplfhfpaaaDoor.U
set_option linter.unusedVariables false
set_option linter.unusedSimpArgs false
def FtT (n : Nat) : Prop := ∀ (t : TestN n) (cs : List Value) (dp : Int) (w : World), (kTest n).K w t cs → 0 ≤ dp → dp ≤ 10 →
  Calls Tryd.prog 165 #[.agg cs.toArray, .int .i64 dp] w fun e w' => e = .returned (.int .i64 (checkT n t dp)) ∧ Below w.heap.size w w'
theorem in_dec (a b c : Int) (w : World) : Calls Tryd.prog 52 #[.int .i64 a, .int .i64 b, .int .i64 c] w fun e w' => e = .returned (.bool (decide (b ≤ a ∧ a ≤ c))) ∧ w = w' := by
  by_cases h : b ≤ a ∧ a ≤ c
  · rw [decide_eq_true h]; exact in_yes a b c w h.1 h.2
  · rw [decide_eq_false h]; exact in_no a b c w h
end Go.Proofs.YtijdghplfhfpaaaDoor.H

/- Scripts: a test that is not in form, as the reference sees it: kind group A. -/
namespace Go.Proofs.YtijdghplfhfpaaaDoor.H
open Go.RowKit Go.Proofs.YtijdghplfhfpaaaDoorW.PrintWords Go.Proofs.YtijdghplfhfpaaaDoorW.PrintLast Go.Proofs.YtijdghplfhfpaaaDoor.U
set_option linter.unusedVariables false
set_option linter.unusedSimpArgs false
set_option maxHeartbeats 4000000 in
set_option maxRecDepth 100000 in
theorem tf_A (n : Nat) (A1 : Option Addr) (c1 : Nat) (A2 : Option Addr) (c2 : Nat) (A3 : Option Addr) (c3 : Nat) (kd mt pt : Int) (nm ks : List ByteArray) (ov : Bool) (lm : Int) (ts : List (TestN n)) (dp : Int) (w : World) (h0 : 0 ≤ dp) (h6 : dp ≤ 6) (k1 : 1 ≤ kd) (k2 : kd ≤ 2) (hf : ¬ formT (⟨kd, mt, pt, nm, ks, ov, lm, ts⟩ : TestF (TestN n))) : Calls Tryd.prog 165 #[.agg #[.int .i64 kd, .int .i64 mt, .int .i64 pt, .slice A1 nm.length c1, .slice A2 ks.length c2, .bool ov, .int .i64 lm, .slice A3 ts.length c3], .int .i64 dp] w (fun e w' => e = .returned (.int .i64 3) ∧ Below w.heap.size w w') := by
  have hf2 : ¬ (nm.length = 0 ∧ ks.length = 0 ∧ mt = 0 ∧ pt = 0 ∧ ov = false ∧ lm = 0 ∧ ts.length = 0) := by
    intro h
    apply hf
    obtain ⟨h1, h2, h3, h4, h5, h6, h7⟩ := h
    simp only [formT]
    rw [if_neg (by omega), if_neg (by omega), if_neg (by omega), if_neg (by omega), if_neg (by omega), if_neg (by omega)]
    exact ⟨h1, ⟨h2, h3⟩, h4, ⟨h5, h6⟩, h7⟩
  clear hf
  have e3 : ¬ 6 < dp := by omega
  have b6 : (kd == 6) = false := by rw [beq_eq_false_iff_ne]; omega
  have b9 : (kd == 9) = false := by rw [beq_eq_false_iff_ne]; omega
  have b10 : (kd == 10) = false := by rw [beq_eq_false_iff_ne]; omega
  have nk3 : (kd != 3) = true := by rw [bne_iff_ne]; omega
  have nk6 : (kd != 6) = true := by rw [bne_iff_ne]; omega
  have HI1 := Lib.hid (fun w => in_yes kd 1 10 w (by omega) (by omega))
  have HI2 := Lib.hid (fun w => in_no kd 6 8 w (by omega))
  have HI3 := Lib.hid (fun w => in_no kd 3 5 w (by omega))
  have HB := Lib.hid (fun w => tb_A A1 c1 A2 c2 A3 c3 kd mt pt nm ks ov lm ts w)
  obtain ⟨bB, hbB⟩ : ∃ bB, bB = decide (nm.length = 0 ∧ ks.length = 0 ∧ mt = 0 ∧ pt = 0 ∧ ov = false ∧ lm = 0 ∧ ts.length = 0) := ⟨_, rfl⟩
  rw [← hbB] at HB
  have hall := Lib.hid (And.intro hf2 (And.intro hbB trivial))
  clear hf2 hbB 
  have hP : Blk (w.alloc (.cells #[.int .i64 kd, .int .i64 mt, .int .i64 pt, .slice A1 nm.length c1, .slice A2 ks.length c2, .bool ov, .int .i64 lm, .slice A3 ts.length c3] 107)) w.heap.size [.int .i64 kd, .int .i64 mt, .int .i64 pt, .slice A1 nm.length c1, .slice A2 ks.length c2, .bool ov, .int .i64 lm, .slice A3 ts.length c3] := Blk.made w _ _
  have p0 := hP.at 0 _ rfl
  have p1 := hP.at 1 _ rfl
  have p2 := hP.at 2 _ rfl
  have p3 := hP.at 3 _ rfl
  have p4 := hP.at 4 _ rfl
  have p5 := hP.at 5 _ rfl
  have p6 := hP.at 6 _ rfl
  have p7 := hP.at 7 _ rfl
  go_enter Tryd.func165, Tryd.ntmps165
  go_wp2_with (go_at_call 52; (first | with_reducible refine (HI1.out _).mono ?_ | with_reducible refine (HI2.out _).mono ?_ | with_reducible refine (HI3.out _).mono ?_); rintro e w9 ⟨rfl, rfl⟩)
  refine (HB.out _).mono ?_
  rintro e w1 ⟨rfl, hb1⟩
  have hP1 := hP.below hb1 hP.lt
  have hB1 : Below w.heap.size w w1 := Below.trans (show Below w.heap.size w (w.alloc (.cells #[.int .i64 kd, .int .i64 mt, .int .i64 pt, .slice A1 nm.length c1, .slice A2 ks.length c2, .bool ov, .int .i64 lm, .slice A3 ts.length c3] 107)) from (by repeat (first | exact Below.refl _ _ | apply below_alloc | apply pw_below_drewN | apply below_drew1 | (refine Below.setCell ?_ (by first | (simp; done) | (simp; omega) | omega) _) ))) (hb1.mono (by simp))
  clear hP p0 p1 p2 p3 p4 p5 p6 p7 hb1
  have p0 := (hP1).at 0 _ rfl
  have p1 := (hP1).at 1 _ rfl
  have p2 := (hP1).at 2 _ rfl
  have p3 := (hP1).at 3 _ rfl
  have p4 := (hP1).at 4 _ rfl
  have p5 := (hP1).at 5 _ rfl
  have p6 := (hP1).at 6 _ rfl
  have p7 := (hP1).at 7 _ rfl
  go_wp2_with (go_at_call 52; (first | with_reducible refine (HI1.out _).mono ?_ | with_reducible refine (HI2.out _).mono ?_ | with_reducible refine (HI3.out _).mono ?_); rintro e w9 ⟨rfl, rfl⟩)
  all_goals (first | (go_ret; exact ⟨rfl, hB1⟩) | (exfalso; have h9 := hall.out; clear hall hP1 hB1 p0 p1 p2 p3 p4 p5 p6 p7 HI1 HI2 HI3 HB; simp_all; done) | (exfalso; have h9 := hall.out; clear hall hP1 hB1 p0 p1 p2 p3 p4 p5 p6 p7 HI1 HI2 HI3 HB; simp_all; omega))

end Go.Proofs.YtijdghplfhfpaaaDoor.H

/- Scripts: a test that is not in form, as the reference sees it: kind group N. -/
namespace Go.Proofs.YtijdghplfhfpaaaDoor.H
open Go.RowKit Go.Proofs.YtijdghplfhfpaaaDoorW.PrintWords Go.Proofs.YtijdghplfhfpaaaDoorW.PrintLast Go.Proofs.YtijdghplfhfpaaaDoor.U
set_option linter.unusedVariables false
set_option linter.unusedSimpArgs false
set_option maxHeartbeats 4000000 in
set_option maxRecDepth 100000 in
theorem tf_N (n : Nat) (A1 : Option Addr) (c1 : Nat) (A2 : Option Addr) (c2 : Nat) (A3 : Option Addr) (c3 : Nat) (kd mt pt : Int) (nm ks : List ByteArray) (ov : Bool) (lm : Int) (ts : List (TestN n)) (dp : Int) (w : World) (h0 : 0 ≤ dp) (h6 : dp ≤ 6) (k1 : 3 ≤ kd) (k2 : kd ≤ 3) (hf : ¬ formT (⟨kd, mt, pt, nm, ks, ov, lm, ts⟩ : TestF (TestN n))) : Calls Tryd.prog 165 #[.agg #[.int .i64 kd, .int .i64 mt, .int .i64 pt, .slice A1 nm.length c1, .slice A2 ks.length c2, .bool ov, .int .i64 lm, .slice A3 ts.length c3], .int .i64 dp] w (fun e w' => e = .returned (.int .i64 3) ∧ Below w.heap.size w w') := by
  have hf2 : ¬ (nm.length = 0 ∧ ks.length = 0 ∧ mt = 0 ∧ pt = 0 ∧ ov = false ∧ lm = 0 ∧ ts.length = 1) := by
    intro h
    apply hf
    obtain ⟨h1, h2, h3, h4, h5, h6, h7⟩ := h
    simp only [formT]
    rw [if_neg (by omega), if_neg (by omega), if_neg (by omega), if_neg (by omega), if_pos (by omega)]
    exact ⟨h1, ⟨h2, h3⟩, h4, ⟨h5, h6⟩, h7⟩
  clear hf
  have e3 : ¬ 6 < dp := by omega
  have b6 : (kd == 6) = false := by rw [beq_eq_false_iff_ne]; omega
  have b9 : (kd == 9) = false := by rw [beq_eq_false_iff_ne]; omega
  have b10 : (kd == 10) = false := by rw [beq_eq_false_iff_ne]; omega
  have nk3 : (kd != 3) = false := by rw [bne_eq_false_iff_eq]; omega
  have nk6 : (kd != 6) = true := by rw [bne_iff_ne]; omega
  have HI1 := Lib.hid (fun w => in_yes kd 1 10 w (by omega) (by omega))
  have HI2 := Lib.hid (fun w => in_no kd 6 8 w (by omega))
  have HI3 := Lib.hid (fun w => in_yes kd 3 5 w (by omega) (by omega))
  have HB := Lib.hid (fun w => tb_N A1 c1 A2 c2 A3 c3 kd mt pt nm ks ov lm ts w)
  obtain ⟨bB, hbB⟩ : ∃ bB, bB = decide (nm.length = 0 ∧ ks.length = 0 ∧ mt = 0 ∧ pt = 0 ∧ ov = false ∧ lm = 0) := ⟨_, rfl⟩
  rw [← hbB] at HB
  have hall := Lib.hid (And.intro hf2 (And.intro hbB trivial))
  clear hf2 hbB 
  have hP : Blk (w.alloc (.cells #[.int .i64 kd, .int .i64 mt, .int .i64 pt, .slice A1 nm.length c1, .slice A2 ks.length c2, .bool ov, .int .i64 lm, .slice A3 ts.length c3] 107)) w.heap.size [.int .i64 kd, .int .i64 mt, .int .i64 pt, .slice A1 nm.length c1, .slice A2 ks.length c2, .bool ov, .int .i64 lm, .slice A3 ts.length c3] := Blk.made w _ _
  have p0 := hP.at 0 _ rfl
  have p1 := hP.at 1 _ rfl
  have p2 := hP.at 2 _ rfl
  have p3 := hP.at 3 _ rfl
  have p4 := hP.at 4 _ rfl
  have p5 := hP.at 5 _ rfl
  have p6 := hP.at 6 _ rfl
  have p7 := hP.at 7 _ rfl
  go_enter Tryd.func165, Tryd.ntmps165
  go_wp2_with (go_at_call 52; (first | with_reducible refine (HI1.out _).mono ?_ | with_reducible refine (HI2.out _).mono ?_ | with_reducible refine (HI3.out _).mono ?_); rintro e w9 ⟨rfl, rfl⟩)
  refine (HB.out _).mono ?_
  rintro e w1 ⟨rfl, hb1⟩
  have hP1 := hP.below hb1 hP.lt
  have hB1 : Below w.heap.size w w1 := Below.trans (show Below w.heap.size w (w.alloc (.cells #[.int .i64 kd, .int .i64 mt, .int .i64 pt, .slice A1 nm.length c1, .slice A2 ks.length c2, .bool ov, .int .i64 lm, .slice A3 ts.length c3] 107)) from (by repeat (first | exact Below.refl _ _ | apply below_alloc | apply pw_below_drewN | apply below_drew1 | (refine Below.setCell ?_ (by first | (simp; done) | (simp; omega) | omega) _) ))) (hb1.mono (by simp))
  clear hP p0 p1 p2 p3 p4 p5 p6 p7 hb1
  have p0 := (hP1).at 0 _ rfl
  have p1 := (hP1).at 1 _ rfl
  have p2 := (hP1).at 2 _ rfl
  have p3 := (hP1).at 3 _ rfl
  have p4 := (hP1).at 4 _ rfl
  have p5 := (hP1).at 5 _ rfl
  have p6 := (hP1).at 6 _ rfl
  have p7 := (hP1).at 7 _ rfl
  go_wp2_with (go_at_call 52; (first | with_reducible refine (HI1.out _).mono ?_ | with_reducible refine (HI2.out _).mono ?_ | with_reducible refine (HI3.out _).mono ?_); rintro e w9 ⟨rfl, rfl⟩)
  all_goals (first | (go_ret; exact ⟨rfl, hB1⟩) | (exfalso; have h9 := hall.out; clear hall hP1 hB1 p0 p1 p2 p3 p4 p5 p6 p7 HI1 HI2 HI3 HB; simp_all; done) | (exfalso; have h9 := hall.out; clear hall hP1 hB1 p0 p1 p2 p3 p4 p5 p6 p7 HI1 HI2 HI3 HB; simp_all; omega))

end Go.Proofs.YtijdghplfhfpaaaDoor.H

/- Scripts: a test that is not in form, as the reference sees it: kind group L. -/
namespace Go.Proofs.YtijdghplfhfpaaaDoor.H
open Go.RowKit Go.Proofs.YtijdghplfhfpaaaDoorW.PrintWords Go.Proofs.YtijdghplfhfpaaaDoorW.PrintLast Go.Proofs.YtijdghplfhfpaaaDoor.U
set_option linter.unusedVariables false
set_option linter.unusedSimpArgs false
set_option maxHeartbeats 4000000 in
set_option maxRecDepth 100000 in
theorem tf_L (n : Nat) (A1 : Option Addr) (c1 : Nat) (A2 : Option Addr) (c2 : Nat) (A3 : Option Addr) (c3 : Nat) (kd mt pt : Int) (nm ks : List ByteArray) (ov : Bool) (lm : Int) (ts : List (TestN n)) (dp : Int) (w : World) (h0 : 0 ≤ dp) (h6 : dp ≤ 6) (k1 : 4 ≤ kd) (k2 : kd ≤ 5) (hf : ¬ formT (⟨kd, mt, pt, nm, ks, ov, lm, ts⟩ : TestF (TestN n))) : Calls Tryd.prog 165 #[.agg #[.int .i64 kd, .int .i64 mt, .int .i64 pt, .slice A1 nm.length c1, .slice A2 ks.length c2, .bool ov, .int .i64 lm, .slice A3 ts.length c3], .int .i64 dp] w (fun e w' => e = .returned (.int .i64 3) ∧ Below w.heap.size w w') := by
  have hf2 : ¬ (nm.length = 0 ∧ ks.length = 0 ∧ mt = 0 ∧ pt = 0 ∧ ov = false ∧ lm = 0 ∧ 0 < ts.length) := by
    intro h
    apply hf
    obtain ⟨h1, h2, h3, h4, h5, h6, h7⟩ := h
    simp only [formT]
    rw [if_neg (by omega), if_neg (by omega), if_neg (by omega), if_neg (by omega), if_neg (by omega), if_pos (by omega)]
    exact ⟨h1, ⟨h2, h3⟩, h4, ⟨h5, h6⟩, h7⟩
  clear hf
  have e3 : ¬ 6 < dp := by omega
  have b6 : (kd == 6) = false := by rw [beq_eq_false_iff_ne]; omega
  have b9 : (kd == 9) = false := by rw [beq_eq_false_iff_ne]; omega
  have b10 : (kd == 10) = false := by rw [beq_eq_false_iff_ne]; omega
  have nk3 : (kd != 3) = true := by rw [bne_iff_ne]; omega
  have nk6 : (kd != 6) = true := by rw [bne_iff_ne]; omega
  have HI1 := Lib.hid (fun w => in_yes kd 1 10 w (by omega) (by omega))
  have HI2 := Lib.hid (fun w => in_no kd 6 8 w (by omega))
  have HI3 := Lib.hid (fun w => in_yes kd 3 5 w (by omega) (by omega))
  have HB := Lib.hid (fun w => tb_N A1 c1 A2 c2 A3 c3 kd mt pt nm ks ov lm ts w)
  obtain ⟨bB, hbB⟩ : ∃ bB, bB = decide (nm.length = 0 ∧ ks.length = 0 ∧ mt = 0 ∧ pt = 0 ∧ ov = false ∧ lm = 0) := ⟨_, rfl⟩
  rw [← hbB] at HB
  have hall := Lib.hid (And.intro hf2 (And.intro hbB trivial))
  clear hf2 hbB 
  have hP : Blk (w.alloc (.cells #[.int .i64 kd, .int .i64 mt, .int .i64 pt, .slice A1 nm.length c1, .slice A2 ks.length c2, .bool ov, .int .i64 lm, .slice A3 ts.length c3] 107)) w.heap.size [.int .i64 kd, .int .i64 mt, .int .i64 pt, .slice A1 nm.length c1, .slice A2 ks.length c2, .bool ov, .int .i64 lm, .slice A3 ts.length c3] := Blk.made w _ _
  have p0 := hP.at 0 _ rfl
  have p1 := hP.at 1 _ rfl
  have p2 := hP.at 2 _ rfl
  have p3 := hP.at 3 _ rfl
  have p4 := hP.at 4 _ rfl
  have p5 := hP.at 5 _ rfl
  have p6 := hP.at 6 _ rfl
  have p7 := hP.at 7 _ rfl
  go_enter Tryd.func165, Tryd.ntmps165
  go_wp2_with (go_at_call 52; (first | with_reducible refine (HI1.out _).mono ?_ | with_reducible refine (HI2.out _).mono ?_ | with_reducible refine (HI3.out _).mono ?_); rintro e w9 ⟨rfl, rfl⟩)
  refine (HB.out _).mono ?_
  rintro e w1 ⟨rfl, hb1⟩
  have hP1 := hP.below hb1 hP.lt
  have hB1 : Below w.heap.size w w1 := Below.trans (show Below w.heap.size w (w.alloc (.cells #[.int .i64 kd, .int .i64 mt, .int .i64 pt, .slice A1 nm.length c1, .slice A2 ks.length c2, .bool ov, .int .i64 lm, .slice A3 ts.length c3] 107)) from (by repeat (first | exact Below.refl _ _ | apply below_alloc | apply pw_below_drewN | apply below_drew1 | (refine Below.setCell ?_ (by first | (simp; done) | (simp; omega) | omega) _) ))) (hb1.mono (by simp))
  clear hP p0 p1 p2 p3 p4 p5 p6 p7 hb1
  have p0 := (hP1).at 0 _ rfl
  have p1 := (hP1).at 1 _ rfl
  have p2 := (hP1).at 2 _ rfl
  have p3 := (hP1).at 3 _ rfl
  have p4 := (hP1).at 4 _ rfl
  have p5 := (hP1).at 5 _ rfl
  have p6 := (hP1).at 6 _ rfl
  have p7 := (hP1).at 7 _ rfl
  go_wp2_with (go_at_call 52; (first | with_reducible refine (HI1.out _).mono ?_ | with_reducible refine (HI2.out _).mono ?_ | with_reducible refine (HI3.out _).mono ?_); rintro e w9 ⟨rfl, rfl⟩)
  all_goals (first | (go_ret; exact ⟨rfl, hB1⟩) | (exfalso; have h9 := hall.out; clear hall hP1 hB1 p0 p1 p2 p3 p4 p5 p6 p7 HI1 HI2 HI3 HB; simp_all; done) | (exfalso; have h9 := hall.out; clear hall hP1 hB1 p0 p1 p2 p3 p4 p5 p6 p7 HI1 HI2 HI3 HB; simp_all; omega))

end Go.Proofs.YtijdghplfhfpaaaDoor.H

/- Scripts: a test that is not in form, as the reference sees it: kind group H. -/
namespace Go.Proofs.YtijdghplfhfpaaaDoor.H
open Go.RowKit Go.Proofs.YtijdghplfhfpaaaDoorW.PrintWords Go.Proofs.YtijdghplfhfpaaaDoorW.PrintLast Go.Proofs.YtijdghplfhfpaaaDoor.U
set_option linter.unusedVariables false
set_option linter.unusedSimpArgs false
set_option maxHeartbeats 4000000 in
set_option maxRecDepth 100000 in
theorem tf_H (n : Nat) (A1 : Option Addr) (c1 : Nat) (A2 : Option Addr) (c2 : Nat) (A3 : Option Addr) (c3 : Nat) (kd mt pt : Int) (nm ks : List ByteArray) (ov : Bool) (lm : Int) (ts : List (TestN n)) (dp : Int) (w : World) (h0 : 0 ≤ dp) (h6 : dp ≤ 6) (k1 : 6 ≤ kd) (k2 : kd ≤ 6) (hf : ¬ formT (⟨kd, mt, pt, nm, ks, ov, lm, ts⟩ : TestF (TestN n))) : Calls Tryd.prog 165 #[.agg #[.int .i64 kd, .int .i64 mt, .int .i64 pt, .slice A1 nm.length c1, .slice A2 ks.length c2, .bool ov, .int .i64 lm, .slice A3 ts.length c3], .int .i64 dp] w (fun e w' => e = .returned (.int .i64 3) ∧ Below w.heap.size w w') := by
  have hf2 : ¬ (0 < nm.length ∧ 0 < ks.length ∧ 1 ≤ mt ∧ mt ≤ 3 ∧ pt = 0 ∧ ov = false ∧ lm = 0 ∧ ts.length = 0) := by
    intro h
    apply hf
    obtain ⟨h1, h2, h3, h4, h5, h6, h7, h8⟩ := h
    simp only [formT]
    rw [if_pos (by omega), if_pos (by omega), if_neg (by omega), if_neg (by omega), if_neg (by omega), if_neg (by omega)]
    exact ⟨h1, ⟨h2, h3, h4⟩, h5, ⟨h6, h7⟩, h8⟩
  clear hf
  have e3 : ¬ 6 < dp := by omega
  have b6 : (kd == 6) = true := by rw [beq_iff_eq]; omega
  have b9 : (kd == 9) = false := by rw [beq_eq_false_iff_ne]; omega
  have b10 : (kd == 10) = false := by rw [beq_eq_false_iff_ne]; omega
  have nk3 : (kd != 3) = true := by rw [bne_iff_ne]; omega
  have nk6 : (kd != 6) = false := by rw [bne_eq_false_iff_eq]; omega
  have HI1 := Lib.hid (fun w => in_yes kd 1 10 w (by omega) (by omega))
  have HI2 := Lib.hid (fun w => in_yes kd 6 8 w (by omega) (by omega))
  have HI3 := Lib.hid (fun w => in_no kd 3 5 w (by omega))
  have HB := Lib.hid (fun w => tb_H A1 c1 A2 c2 A3 c3 kd mt pt nm ks ov lm ts w)
  have HIm := fun w => in_dec mt 1 3 w
  obtain ⟨bm, hbm⟩ : ∃ bm, bm = decide (1 ≤ mt ∧ mt ≤ 3) := ⟨_, rfl⟩
  rw [← hbm] at HIm
  replace HIm := Lib.hid HIm
  obtain ⟨bB, hbB⟩ : ∃ bB, bB = decide (pt = 0 ∧ ov = false ∧ lm = 0 ∧ ts.length = 0) := ⟨_, rfl⟩
  rw [← hbB] at HB
  have hall := Lib.hid (And.intro hf2 (And.intro hbB hbm))
  clear hf2 hbB hbm
  have hP : Blk (w.alloc (.cells #[.int .i64 kd, .int .i64 mt, .int .i64 pt, .slice A1 nm.length c1, .slice A2 ks.length c2, .bool ov, .int .i64 lm, .slice A3 ts.length c3] 107)) w.heap.size [.int .i64 kd, .int .i64 mt, .int .i64 pt, .slice A1 nm.length c1, .slice A2 ks.length c2, .bool ov, .int .i64 lm, .slice A3 ts.length c3] := Blk.made w _ _
  have p0 := hP.at 0 _ rfl
  have p1 := hP.at 1 _ rfl
  have p2 := hP.at 2 _ rfl
  have p3 := hP.at 3 _ rfl
  have p4 := hP.at 4 _ rfl
  have p5 := hP.at 5 _ rfl
  have p6 := hP.at 6 _ rfl
  have p7 := hP.at 7 _ rfl
  go_enter Tryd.func165, Tryd.ntmps165
  go_wp2_with (go_at_call 52; (first | with_reducible refine (HI1.out _).mono ?_ | with_reducible refine (HI2.out _).mono ?_ | with_reducible refine (HI3.out _).mono ?_ | with_reducible refine (HIm.out _).mono ?_); rintro e w9 ⟨rfl, rfl⟩)
  refine (HB.out _).mono ?_
  rintro e w1 ⟨rfl, hb1⟩
  have hP1 := hP.below hb1 hP.lt
  have hB1 : Below w.heap.size w w1 := Below.trans (show Below w.heap.size w (w.alloc (.cells #[.int .i64 kd, .int .i64 mt, .int .i64 pt, .slice A1 nm.length c1, .slice A2 ks.length c2, .bool ov, .int .i64 lm, .slice A3 ts.length c3] 107)) from (by repeat (first | exact Below.refl _ _ | apply below_alloc | apply pw_below_drewN | apply below_drew1 | (refine Below.setCell ?_ (by first | (simp; done) | (simp; omega) | omega) _) ))) (hb1.mono (by simp))
  clear hP p0 p1 p2 p3 p4 p5 p6 p7 hb1
  have p0 := (hP1).at 0 _ rfl
  have p1 := (hP1).at 1 _ rfl
  have p2 := (hP1).at 2 _ rfl
  have p3 := (hP1).at 3 _ rfl
  have p4 := (hP1).at 4 _ rfl
  have p5 := (hP1).at 5 _ rfl
  have p6 := (hP1).at 6 _ rfl
  have p7 := (hP1).at 7 _ rfl
  go_wp2_with (go_at_call 52; (first | with_reducible refine (HI1.out _).mono ?_ | with_reducible refine (HI2.out _).mono ?_ | with_reducible refine (HI3.out _).mono ?_ | with_reducible refine (HIm.out _).mono ?_); rintro e w9 ⟨rfl, rfl⟩)
  all_goals (first | (go_ret; exact ⟨rfl, hB1⟩) | (exfalso; have h9 := hall.out; clear hall hP1 hB1 p0 p1 p2 p3 p4 p5 p6 p7 HI1 HI2 HI3 HB; simp_all; done) | (exfalso; have h9 := hall.out; clear hall hP1 hB1 p0 p1 p2 p3 p4 p5 p6 p7 HI1 HI2 HI3 HB; simp_all; omega))

end Go.Proofs.YtijdghplfhfpaaaDoor.H

/- Scripts: a test that is not in form, as the reference sees it: kind group D. -/
namespace Go.Proofs.YtijdghplfhfpaaaDoor.H
open Go.RowKit Go.Proofs.YtijdghplfhfpaaaDoorW.PrintWords Go.Proofs.YtijdghplfhfpaaaDoorW.PrintLast Go.Proofs.YtijdghplfhfpaaaDoor.U
set_option linter.unusedVariables false
set_option linter.unusedSimpArgs false
set_option maxHeartbeats 4000000 in
set_option maxRecDepth 100000 in
theorem tf_D (n : Nat) (A1 : Option Addr) (c1 : Nat) (A2 : Option Addr) (c2 : Nat) (A3 : Option Addr) (c3 : Nat) (kd mt pt : Int) (nm ks : List ByteArray) (ov : Bool) (lm : Int) (ts : List (TestN n)) (dp : Int) (w : World) (h0 : 0 ≤ dp) (h6 : dp ≤ 6) (k1 : 7 ≤ kd) (k2 : kd ≤ 8) (hf : ¬ formT (⟨kd, mt, pt, nm, ks, ov, lm, ts⟩ : TestF (TestN n))) : Calls Tryd.prog 165 #[.agg #[.int .i64 kd, .int .i64 mt, .int .i64 pt, .slice A1 nm.length c1, .slice A2 ks.length c2, .bool ov, .int .i64 lm, .slice A3 ts.length c3], .int .i64 dp] w (fun e w' => e = .returned (.int .i64 3) ∧ Below w.heap.size w w') := by
  have hf2 : ¬ (0 < nm.length ∧ 0 < ks.length ∧ 1 ≤ mt ∧ mt ≤ 3 ∧ 1 ≤ pt ∧ pt ≤ 3 ∧ ov = false ∧ lm = 0 ∧ ts.length = 0) := by
    intro h
    apply hf
    obtain ⟨h1, h2, h3, h4, h5, h6, h7, h8, h9⟩ := h
    simp only [formT]
    rw [if_pos (by omega), if_pos (by omega), if_pos (by omega), if_neg (by omega), if_neg (by omega), if_neg (by omega)]
    exact ⟨h1, ⟨h2, h3, h4⟩, ⟨h5, h6⟩, ⟨h7, h8⟩, h9⟩
  clear hf
  have e3 : ¬ 6 < dp := by omega
  have b6 : (kd == 6) = false := by rw [beq_eq_false_iff_ne]; omega
  have b9 : (kd == 9) = false := by rw [beq_eq_false_iff_ne]; omega
  have b10 : (kd == 10) = false := by rw [beq_eq_false_iff_ne]; omega
  have nk3 : (kd != 3) = true := by rw [bne_iff_ne]; omega
  have nk6 : (kd != 6) = true := by rw [bne_iff_ne]; omega
  have HI1 := Lib.hid (fun w => in_yes kd 1 10 w (by omega) (by omega))
  have HI2 := Lib.hid (fun w => in_yes kd 6 8 w (by omega) (by omega))
  have HI3 := Lib.hid (fun w => in_no kd 3 5 w (by omega))
  have HB := Lib.hid (fun w => tb_D A1 c1 A2 c2 A3 c3 kd mt pt nm ks ov lm ts w)
  have HIm := fun w => in_dec mt 1 3 w
  obtain ⟨bm, hbm⟩ : ∃ bm, bm = decide (1 ≤ mt ∧ mt ≤ 3) := ⟨_, rfl⟩
  rw [← hbm] at HIm
  replace HIm := Lib.hid HIm
  have HIp := fun w => in_dec pt 1 3 w
  obtain ⟨bp, hbp⟩ : ∃ bp, bp = decide (1 ≤ pt ∧ pt ≤ 3) := ⟨_, rfl⟩
  rw [← hbp] at HIp
  replace HIp := Lib.hid HIp
  obtain ⟨bB, hbB⟩ : ∃ bB, bB = decide (ov = false ∧ lm = 0 ∧ ts.length = 0) := ⟨_, rfl⟩
  rw [← hbB] at HB
  have hall := Lib.hid (And.intro hf2 (And.intro hbB (And.intro hbm hbp)))
  clear hf2 hbB hbm hbp
  have hP : Blk (w.alloc (.cells #[.int .i64 kd, .int .i64 mt, .int .i64 pt, .slice A1 nm.length c1, .slice A2 ks.length c2, .bool ov, .int .i64 lm, .slice A3 ts.length c3] 107)) w.heap.size [.int .i64 kd, .int .i64 mt, .int .i64 pt, .slice A1 nm.length c1, .slice A2 ks.length c2, .bool ov, .int .i64 lm, .slice A3 ts.length c3] := Blk.made w _ _
  have p0 := hP.at 0 _ rfl
  have p1 := hP.at 1 _ rfl
  have p2 := hP.at 2 _ rfl
  have p3 := hP.at 3 _ rfl
  have p4 := hP.at 4 _ rfl
  have p5 := hP.at 5 _ rfl
  have p6 := hP.at 6 _ rfl
  have p7 := hP.at 7 _ rfl
  go_enter Tryd.func165, Tryd.ntmps165
  go_wp2_with (go_at_call 52; (first | with_reducible refine (HI1.out _).mono ?_ | with_reducible refine (HI2.out _).mono ?_ | with_reducible refine (HI3.out _).mono ?_ | with_reducible refine (HIm.out _).mono ?_ | with_reducible refine (HIp.out _).mono ?_); rintro e w9 ⟨rfl, rfl⟩)
  refine (HB.out _).mono ?_
  rintro e w1 ⟨rfl, hb1⟩
  have hP1 := hP.below hb1 hP.lt
  have hB1 : Below w.heap.size w w1 := Below.trans (show Below w.heap.size w (w.alloc (.cells #[.int .i64 kd, .int .i64 mt, .int .i64 pt, .slice A1 nm.length c1, .slice A2 ks.length c2, .bool ov, .int .i64 lm, .slice A3 ts.length c3] 107)) from (by repeat (first | exact Below.refl _ _ | apply below_alloc | apply pw_below_drewN | apply below_drew1 | (refine Below.setCell ?_ (by first | (simp; done) | (simp; omega) | omega) _) ))) (hb1.mono (by simp))
  clear hP p0 p1 p2 p3 p4 p5 p6 p7 hb1
  have p0 := (hP1).at 0 _ rfl
  have p1 := (hP1).at 1 _ rfl
  have p2 := (hP1).at 2 _ rfl
  have p3 := (hP1).at 3 _ rfl
  have p4 := (hP1).at 4 _ rfl
  have p5 := (hP1).at 5 _ rfl
  have p6 := (hP1).at 6 _ rfl
  have p7 := (hP1).at 7 _ rfl
  go_wp2_with (go_at_call 52; (first | with_reducible refine (HI1.out _).mono ?_ | with_reducible refine (HI2.out _).mono ?_ | with_reducible refine (HI3.out _).mono ?_ | with_reducible refine (HIm.out _).mono ?_ | with_reducible refine (HIp.out _).mono ?_); rintro e w9 ⟨rfl, rfl⟩)
  all_goals (first | (go_ret; exact ⟨rfl, hB1⟩) | (exfalso; have h9 := hall.out; clear hall hP1 hB1 p0 p1 p2 p3 p4 p5 p6 p7 HI1 HI2 HI3 HB; simp_all; done) | (exfalso; have h9 := hall.out; clear hall hP1 hB1 p0 p1 p2 p3 p4 p5 p6 p7 HI1 HI2 HI3 HB; simp_all; omega))

end Go.Proofs.YtijdghplfhfpaaaDoor.H

/- Scripts: a test that is not in form, as the reference sees it: kind group E. -/
namespace Go.Proofs.YtijdghplfhfpaaaDoor.H
open Go.RowKit Go.Proofs.YtijdghplfhfpaaaDoorW.PrintWords Go.Proofs.YtijdghplfhfpaaaDoorW.PrintLast Go.Proofs.YtijdghplfhfpaaaDoor.U
set_option linter.unusedVariables false
set_option linter.unusedSimpArgs false
set_option maxHeartbeats 4000000 in
set_option maxRecDepth 100000 in
theorem tf_E (n : Nat) (A1 : Option Addr) (c1 : Nat) (A2 : Option Addr) (c2 : Nat) (A3 : Option Addr) (c3 : Nat) (kd mt pt : Int) (nm ks : List ByteArray) (ov : Bool) (lm : Int) (ts : List (TestN n)) (dp : Int) (w : World) (h0 : 0 ≤ dp) (h6 : dp ≤ 6) (k1 : 9 ≤ kd) (k2 : kd ≤ 9) (hf : ¬ formT (⟨kd, mt, pt, nm, ks, ov, lm, ts⟩ : TestF (TestN n))) : Calls Tryd.prog 165 #[.agg #[.int .i64 kd, .int .i64 mt, .int .i64 pt, .slice A1 nm.length c1, .slice A2 ks.length c2, .bool ov, .int .i64 lm, .slice A3 ts.length c3], .int .i64 dp] w (fun e w' => e = .returned (.int .i64 3) ∧ Below w.heap.size w w') := by
  have hf2 : ¬ (0 < nm.length ∧ ks.length = 0 ∧ mt = 0 ∧ pt = 0 ∧ ov = false ∧ lm = 0 ∧ ts.length = 0) := by
    intro h
    apply hf
    obtain ⟨h1, h2, h3, h4, h5, h6, h7⟩ := h
    simp only [formT]
    rw [if_pos (by omega), if_neg (by omega), if_neg (by omega), if_neg (by omega), if_neg (by omega), if_neg (by omega)]
    exact ⟨h1, ⟨h2, h3⟩, h4, ⟨h5, h6⟩, h7⟩
  clear hf
  have e3 : ¬ 6 < dp := by omega
  have b6 : (kd == 6) = false := by rw [beq_eq_false_iff_ne]; omega
  have b9 : (kd == 9) = true := by rw [beq_iff_eq]; omega
  have b10 : (kd == 10) = false := by rw [beq_eq_false_iff_ne]; omega
  have nk3 : (kd != 3) = true := by rw [bne_iff_ne]; omega
  have nk6 : (kd != 6) = true := by rw [bne_iff_ne]; omega
  have HI1 := Lib.hid (fun w => in_yes kd 1 10 w (by omega) (by omega))
  have HI2 := Lib.hid (fun w => in_no kd 6 8 w (by omega))
  have HI3 := Lib.hid (fun w => in_no kd 3 5 w (by omega))
  have HB := Lib.hid (fun w => tb_E A1 c1 A2 c2 A3 c3 kd mt pt nm ks ov lm ts w)
  obtain ⟨bB, hbB⟩ : ∃ bB, bB = decide (ks.length = 0 ∧ mt = 0 ∧ pt = 0 ∧ ov = false ∧ lm = 0 ∧ ts.length = 0) := ⟨_, rfl⟩
  rw [← hbB] at HB
  have hall := Lib.hid (And.intro hf2 (And.intro hbB trivial))
  clear hf2 hbB 
  have hP : Blk (w.alloc (.cells #[.int .i64 kd, .int .i64 mt, .int .i64 pt, .slice A1 nm.length c1, .slice A2 ks.length c2, .bool ov, .int .i64 lm, .slice A3 ts.length c3] 107)) w.heap.size [.int .i64 kd, .int .i64 mt, .int .i64 pt, .slice A1 nm.length c1, .slice A2 ks.length c2, .bool ov, .int .i64 lm, .slice A3 ts.length c3] := Blk.made w _ _
  have p0 := hP.at 0 _ rfl
  have p1 := hP.at 1 _ rfl
  have p2 := hP.at 2 _ rfl
  have p3 := hP.at 3 _ rfl
  have p4 := hP.at 4 _ rfl
  have p5 := hP.at 5 _ rfl
  have p6 := hP.at 6 _ rfl
  have p7 := hP.at 7 _ rfl
  go_enter Tryd.func165, Tryd.ntmps165
  go_wp2_with (go_at_call 52; (first | with_reducible refine (HI1.out _).mono ?_ | with_reducible refine (HI2.out _).mono ?_ | with_reducible refine (HI3.out _).mono ?_); rintro e w9 ⟨rfl, rfl⟩)
  refine (HB.out _).mono ?_
  rintro e w1 ⟨rfl, hb1⟩
  have hP1 := hP.below hb1 hP.lt
  have hB1 : Below w.heap.size w w1 := Below.trans (show Below w.heap.size w (w.alloc (.cells #[.int .i64 kd, .int .i64 mt, .int .i64 pt, .slice A1 nm.length c1, .slice A2 ks.length c2, .bool ov, .int .i64 lm, .slice A3 ts.length c3] 107)) from (by repeat (first | exact Below.refl _ _ | apply below_alloc | apply pw_below_drewN | apply below_drew1 | (refine Below.setCell ?_ (by first | (simp; done) | (simp; omega) | omega) _) ))) (hb1.mono (by simp))
  clear hP p0 p1 p2 p3 p4 p5 p6 p7 hb1
  have p0 := (hP1).at 0 _ rfl
  have p1 := (hP1).at 1 _ rfl
  have p2 := (hP1).at 2 _ rfl
  have p3 := (hP1).at 3 _ rfl
  have p4 := (hP1).at 4 _ rfl
  have p5 := (hP1).at 5 _ rfl
  have p6 := (hP1).at 6 _ rfl
  have p7 := (hP1).at 7 _ rfl
  go_wp2_with (go_at_call 52; (first | with_reducible refine (HI1.out _).mono ?_ | with_reducible refine (HI2.out _).mono ?_ | with_reducible refine (HI3.out _).mono ?_); rintro e w9 ⟨rfl, rfl⟩)
  all_goals (first | (go_ret; exact ⟨rfl, hB1⟩) | (exfalso; have h9 := hall.out; clear hall hP1 hB1 p0 p1 p2 p3 p4 p5 p6 p7 HI1 HI2 HI3 HB; simp_all; done) | (exfalso; have h9 := hall.out; clear hall hP1 hB1 p0 p1 p2 p3 p4 p5 p6 p7 HI1 HI2 HI3 HB; simp_all; omega))

end Go.Proofs.YtijdghplfhfpaaaDoor.H

/- Scripts: a test that is not in form, as the reference sees it: kind group S. -/
namespace Go.Proofs.YtijdghplfhfpaaaDoor.H
open Go.RowKit Go.Proofs.YtijdghplfhfpaaaDoorW.PrintWords Go.Proofs.YtijdghplfhfpaaaDoorW.PrintLast Go.Proofs.YtijdghplfhfpaaaDoor.U
set_option linter.unusedVariables false
set_option linter.unusedSimpArgs false
set_option maxHeartbeats 4000000 in
set_option maxRecDepth 100000 in
theorem tf_S (n : Nat) (A1 : Option Addr) (c1 : Nat) (A2 : Option Addr) (c2 : Nat) (A3 : Option Addr) (c3 : Nat) (kd mt pt : Int) (nm ks : List ByteArray) (ov : Bool) (lm : Int) (ts : List (TestN n)) (dp : Int) (w : World) (h0 : 0 ≤ dp) (h6 : dp ≤ 6) (k1 : 10 ≤ kd) (k2 : kd ≤ 10) (hf : ¬ formT (⟨kd, mt, pt, nm, ks, ov, lm, ts⟩ : TestF (TestN n))) : Calls Tryd.prog 165 #[.agg #[.int .i64 kd, .int .i64 mt, .int .i64 pt, .slice A1 nm.length c1, .slice A2 ks.length c2, .bool ov, .int .i64 lm, .slice A3 ts.length c3], .int .i64 dp] w (fun e w' => e = .returned (.int .i64 3) ∧ Below w.heap.size w w') := by
  have hf2 : ¬ (nm.length = 0 ∧ ks.length = 0 ∧ mt = 0 ∧ pt = 0 ∧ 0 ≤ lm ∧ lm ≤ 2147483647 ∧ ts.length = 0) := by
    intro h
    apply hf
    obtain ⟨h1, h2, h3, h4, h5, h6, h7⟩ := h
    simp only [formT]
    rw [if_neg (by omega), if_neg (by omega), if_neg (by omega), if_pos (by omega), if_neg (by omega), if_neg (by omega)]
    exact ⟨h1, ⟨h2, h3⟩, h4, ⟨h5, h6⟩, h7⟩
  clear hf
  have e3 : ¬ 6 < dp := by omega
  have b6 : (kd == 6) = false := by rw [beq_eq_false_iff_ne]; omega
  have b9 : (kd == 9) = false := by rw [beq_eq_false_iff_ne]; omega
  have b10 : (kd == 10) = true := by rw [beq_iff_eq]; omega
  have nk3 : (kd != 3) = true := by rw [bne_iff_ne]; omega
  have nk6 : (kd != 6) = true := by rw [bne_iff_ne]; omega
  have HI1 := Lib.hid (fun w => in_yes kd 1 10 w (by omega) (by omega))
  have HI2 := Lib.hid (fun w => in_no kd 6 8 w (by omega))
  have HI3 := Lib.hid (fun w => in_no kd 3 5 w (by omega))
  have HB := Lib.hid (fun w => tb_S A1 c1 A2 c2 A3 c3 kd mt pt nm ks ov lm ts w)
  have HIl := fun w => in_dec lm 0 2147483647 w
  obtain ⟨bl, hbl⟩ : ∃ bl, bl = decide (0 ≤ lm ∧ lm ≤ 2147483647) := ⟨_, rfl⟩
  rw [← hbl] at HIl
  replace HIl := Lib.hid HIl
  obtain ⟨bB, hbB⟩ : ∃ bB, bB = decide (nm.length = 0 ∧ ks.length = 0 ∧ mt = 0 ∧ pt = 0 ∧ ts.length = 0) := ⟨_, rfl⟩
  rw [← hbB] at HB
  have hall := Lib.hid (And.intro hf2 (And.intro hbB hbl))
  clear hf2 hbB hbl
  have hP : Blk (w.alloc (.cells #[.int .i64 kd, .int .i64 mt, .int .i64 pt, .slice A1 nm.length c1, .slice A2 ks.length c2, .bool ov, .int .i64 lm, .slice A3 ts.length c3] 107)) w.heap.size [.int .i64 kd, .int .i64 mt, .int .i64 pt, .slice A1 nm.length c1, .slice A2 ks.length c2, .bool ov, .int .i64 lm, .slice A3 ts.length c3] := Blk.made w _ _
  have p0 := hP.at 0 _ rfl
  have p1 := hP.at 1 _ rfl
  have p2 := hP.at 2 _ rfl
  have p3 := hP.at 3 _ rfl
  have p4 := hP.at 4 _ rfl
  have p5 := hP.at 5 _ rfl
  have p6 := hP.at 6 _ rfl
  have p7 := hP.at 7 _ rfl
  go_enter Tryd.func165, Tryd.ntmps165
  go_wp2_with (go_at_call 52; (first | with_reducible refine (HI1.out _).mono ?_ | with_reducible refine (HI2.out _).mono ?_ | with_reducible refine (HI3.out _).mono ?_ | with_reducible refine (HIl.out _).mono ?_); rintro e w9 ⟨rfl, rfl⟩)
  refine (HB.out _).mono ?_
  rintro e w1 ⟨rfl, hb1⟩
  have hP1 := hP.below hb1 hP.lt
  have hB1 : Below w.heap.size w w1 := Below.trans (show Below w.heap.size w (w.alloc (.cells #[.int .i64 kd, .int .i64 mt, .int .i64 pt, .slice A1 nm.length c1, .slice A2 ks.length c2, .bool ov, .int .i64 lm, .slice A3 ts.length c3] 107)) from (by repeat (first | exact Below.refl _ _ | apply below_alloc | apply pw_below_drewN | apply below_drew1 | (refine Below.setCell ?_ (by first | (simp; done) | (simp; omega) | omega) _) ))) (hb1.mono (by simp))
  clear hP p0 p1 p2 p3 p4 p5 p6 p7 hb1
  have p0 := (hP1).at 0 _ rfl
  have p1 := (hP1).at 1 _ rfl
  have p2 := (hP1).at 2 _ rfl
  have p3 := (hP1).at 3 _ rfl
  have p4 := (hP1).at 4 _ rfl
  have p5 := (hP1).at 5 _ rfl
  have p6 := (hP1).at 6 _ rfl
  have p7 := (hP1).at 7 _ rfl
  go_wp2_with (go_at_call 52; (first | with_reducible refine (HI1.out _).mono ?_ | with_reducible refine (HI2.out _).mono ?_ | with_reducible refine (HI3.out _).mono ?_ | with_reducible refine (HIl.out _).mono ?_); rintro e w9 ⟨rfl, rfl⟩)
  all_goals (first | (go_ret; exact ⟨rfl, hB1⟩) | (exfalso; have h9 := hall.out; clear hall hP1 hB1 p0 p1 p2 p3 p4 p5 p6 p7 HI1 HI2 HI3 HB; simp_all; done) | (exfalso; have h9 := hall.out; clear hall hP1 hB1 p0 p1 p2 p3 p4 p5 p6 p7 HI1 HI2 HI3 HB; simp_all; omega))

end Go.Proofs.YtijdghplfhfpaaaDoor.H

/- Scripts: a test in form, as the reference sees it: kind group A. -/
namespace Go.Proofs.YtijdghplfhfpaaaDoor.H
open Go.RowKit Go.Proofs.YtijdghplfhfpaaaDoorW.PrintWords Go.Proofs.YtijdghplfhfpaaaDoorW.PrintLast Go.Proofs.YtijdghplfhfpaaaDoor.U
set_option linter.unusedVariables false
set_option linter.unusedSimpArgs false
set_option maxHeartbeats 2000000 in
set_option maxRecDepth 100000 in
theorem tf_okA (n : Nat) (IH : FtT n) (A1 : Option Addr) (c1 : Nat) (A2 : Option Addr) (c2 : Nat) (A3 : Option Addr) (c3 : Nat) (kd mt pt : Int) (nm ks : List ByteArray) (ov : Bool) (lm : Int) (ts : List (TestN n)) (dp : Int) (w : World) (h0 : 0 ≤ dp) (h6 : dp ≤ 6) (hr : (kTest n).C w A3 ts.length ts) (k1 : 1 ≤ kd) (k2 : kd ≤ 2) (hf : formT (⟨kd, mt, pt, nm, ks, ov, lm, ts⟩ : TestF (TestN n))) : Calls Tryd.prog 165 #[.agg #[.int .i64 kd, .int .i64 mt, .int .i64 pt, .slice A1 nm.length c1, .slice A2 ks.length c2, .bool ov, .int .i64 lm, .slice A3 ts.length c3], .int .i64 dp] w (fun e w' => e = .returned (.int .i64 (errs (fun x => checkT n x (dp + 1)) ts)) ∧ Below w.heap.size w w') := by
  have hf2 : nm.length = 0 ∧ ks.length = 0 ∧ mt = 0 ∧ pt = 0 ∧ ov = false ∧ lm = 0 ∧ ts.length = 0 := by
    simp only [formT] at hf
    rw [if_neg (by omega), if_neg (by omega), if_neg (by omega), if_neg (by omega), if_neg (by omega), if_neg (by omega)] at hf
    obtain ⟨h1, ⟨h2, h3⟩, h4, ⟨h5, h6⟩, h7⟩ := hf
    exact ⟨h1, h2, h3, h4, h5, h6, h7⟩
  clear hf
  obtain ⟨h1, h2, h3, h4, h5, h6, h7⟩ := hf2
  have e3 : ¬ 6 < dp := by omega
  have b6 : (kd == 6) = false := by rw [beq_eq_false_iff_ne]; omega
  have b9 : (kd == 9) = false := by rw [beq_eq_false_iff_ne]; omega
  have b10 : (kd == 10) = false := by rw [beq_eq_false_iff_ne]; omega
  have nk3 : (kd != 3) = true := by rw [bne_iff_ne]; omega
  have nk6 : (kd != 6) = true := by rw [bne_iff_ne]; omega
  have HI1 := Lib.hid (fun w => in_yes kd 1 10 w (by omega) (by omega))
  have HI2 := Lib.hid (fun w => in_no kd 6 8 w (by omega))
  have HI3 := Lib.hid (fun w => in_no kd 3 5 w (by omega))
  have HB := Lib.hid (fun w => tb_A A1 c1 A2 c2 A3 c3 kd mt pt nm ks ov lm ts w)
  rw [decide_eq_true (show nm.length = 0 ∧ ks.length = 0 ∧ mt = 0 ∧ pt = 0 ∧ ov = false ∧ lm = 0 ∧ ts.length = 0 from ⟨h1, h2, h3, h4, h5, h6, h7⟩)] at HB
  have hz0 := Lib.hid h7
  clear h1 h2 h3 h4 h5 h6 h7
  have h63 := hr.2.1
  replace hr := Lib.hid hr
  replace IH := Lib.hid IH
  generalize hR : errs (fun x => checkT n x (dp + 1)) ts = R
  replace hR : errs (fun x => checkT n x (dp + 1)) (ts.drop 0) = R := hR
  replace hR := Lib.hid hR
  have hP : Blk (w.alloc (.cells #[.int .i64 kd, .int .i64 mt, .int .i64 pt, .slice A1 nm.length c1, .slice A2 ks.length c2, .bool ov, .int .i64 lm, .slice A3 ts.length c3] 107)) w.heap.size [.int .i64 kd, .int .i64 mt, .int .i64 pt, .slice A1 nm.length c1, .slice A2 ks.length c2, .bool ov, .int .i64 lm, .slice A3 ts.length c3] := Blk.made w _ _
  have p0 := hP.at 0 _ rfl
  have p1 := hP.at 1 _ rfl
  have p2 := hP.at 2 _ rfl
  have p3 := hP.at 3 _ rfl
  have p4 := hP.at 4 _ rfl
  have p5 := hP.at 5 _ rfl
  have p6 := hP.at 6 _ rfl
  have p7 := hP.at 7 _ rfl
  go_enter Tryd.func165, Tryd.ntmps165
  go_wp2_with (go_at_call 52; (first | with_reducible refine (HI1.out _).mono ?_ | with_reducible refine (HI2.out _).mono ?_ | with_reducible refine (HI3.out _).mono ?_); rintro e w9 ⟨rfl, rfl⟩)
  refine (HB.out _).mono ?_
  rintro e w1 ⟨rfl, hb1⟩
  have hP1 := hP.below hb1 hP.lt
  have hB1 : Below w.heap.size w w1 := Below.trans (show Below w.heap.size w (w.alloc (.cells #[.int .i64 kd, .int .i64 mt, .int .i64 pt, .slice A1 nm.length c1, .slice A2 ks.length c2, .bool ov, .int .i64 lm, .slice A3 ts.length c3] 107)) from (by repeat (first | exact Below.refl _ _ | apply below_alloc | apply pw_below_drewN | apply below_drew1 | (refine Below.setCell ?_ (by first | (simp; done) | (simp; omega) | omega) _) ))) (hb1.mono (by simp))
  clear hP p0 p1 p2 p3 p4 p5 p6 p7 hb1
  have p0 := (hP1).at 0 _ rfl
  have p1 := (hP1).at 1 _ rfl
  have p2 := (hP1).at 2 _ rfl
  have p3 := (hP1).at 3 _ rfl
  have p4 := (hP1).at 4 _ rfl
  have p5 := (hP1).at 5 _ rfl
  have p6 := (hP1).at 6 _ rfl
  have p7 := (hP1).at 7 _ rfl
  go_wp2_with (go_at_call 52; (first | with_reducible refine (HI1.out _).mono ?_ | with_reducible refine (HI2.out _).mono ?_ | with_reducible refine (HI3.out _).mono ?_); rintro e w9 ⟨rfl, rfl⟩)
  clear p0 p1 p2 p3 p4 p5 p6 p7
  replace hR := hR.out
  have hPl := hP1.lt
  go_loopw [8] (fun i wr => ∃ k : Nat, k ≤ ts.length ∧ i = .int .i64 k ∧ errs (fun x => checkT n x (dp + 1)) (ts.drop k) = R ∧ Below w1.heap.size w1 wr) (fun i _ => ts.length - (intOf i).toNat)
  case atStart => exact ⟨0, Nat.zero_le _, rfl, hR, Below.refl _ _⟩
  case round =>
    clear hR
    obtain ⟨k, hk, rfl, hR, hB0⟩ := hrel
    have hB : Below w.heap.size w wr := hB1.trans (hB0.mono hB1.size)
    have p7 := (hP1.below hB0 hPl).at 7 _ rfl
    have pl := (hP1.below hB0 hPl).lt
    by_cases hlt : k < ts.length
    · exfalso; have := hz0.out; omega
    · obtain rfl : k = ts.length := by omega
      rw [errs_end] at hR
      subst hR
      have i1 : ¬ (ts.length : Int) < (ts.length : Int) := by omega
      go_wp2_with fail
      go_ret
      exact ⟨rfl, hB⟩

end Go.Proofs.YtijdghplfhfpaaaDoor.H

/- Scripts: a test in form, as the reference sees it: kind group N. -/
namespace Go.Proofs.YtijdghplfhfpaaaDoor.H
open Go.RowKit Go.Proofs.YtijdghplfhfpaaaDoorW.PrintWords Go.Proofs.YtijdghplfhfpaaaDoorW.PrintLast Go.Proofs.YtijdghplfhfpaaaDoor.U
set_option linter.unusedVariables false
set_option linter.unusedSimpArgs false
set_option maxHeartbeats 2000000 in
set_option maxRecDepth 100000 in
theorem tf_okN (n : Nat) (IH : FtT n) (A1 : Option Addr) (c1 : Nat) (A2 : Option Addr) (c2 : Nat) (A3 : Option Addr) (c3 : Nat) (kd mt pt : Int) (nm ks : List ByteArray) (ov : Bool) (lm : Int) (ts : List (TestN n)) (dp : Int) (w : World) (h0 : 0 ≤ dp) (h6 : dp ≤ 6) (hr : (kTest n).C w A3 ts.length ts) (k1 : 3 ≤ kd) (k2 : kd ≤ 3) (hf : formT (⟨kd, mt, pt, nm, ks, ov, lm, ts⟩ : TestF (TestN n))) : Calls Tryd.prog 165 #[.agg #[.int .i64 kd, .int .i64 mt, .int .i64 pt, .slice A1 nm.length c1, .slice A2 ks.length c2, .bool ov, .int .i64 lm, .slice A3 ts.length c3], .int .i64 dp] w (fun e w' => e = .returned (.int .i64 (errs (fun x => checkT n x (dp + 1)) ts)) ∧ Below w.heap.size w w') := by
  have hf2 : nm.length = 0 ∧ ks.length = 0 ∧ mt = 0 ∧ pt = 0 ∧ ov = false ∧ lm = 0 ∧ ts.length = 1 := by
    simp only [formT] at hf
    rw [if_neg (by omega), if_neg (by omega), if_neg (by omega), if_neg (by omega), if_pos (by omega)] at hf
    obtain ⟨h1, ⟨h2, h3⟩, h4, ⟨h5, h6⟩, h7⟩ := hf
    exact ⟨h1, h2, h3, h4, h5, h6, h7⟩
  clear hf
  obtain ⟨h1, h2, h3, h4, h5, h6, h7⟩ := hf2
  have e3 : ¬ 6 < dp := by omega
  have b6 : (kd == 6) = false := by rw [beq_eq_false_iff_ne]; omega
  have b9 : (kd == 9) = false := by rw [beq_eq_false_iff_ne]; omega
  have b10 : (kd == 10) = false := by rw [beq_eq_false_iff_ne]; omega
  have nk3 : (kd != 3) = false := by rw [bne_eq_false_iff_eq]; omega
  have nk6 : (kd != 6) = true := by rw [bne_iff_ne]; omega
  have HI1 := Lib.hid (fun w => in_yes kd 1 10 w (by omega) (by omega))
  have HI2 := Lib.hid (fun w => in_no kd 6 8 w (by omega))
  have HI3 := Lib.hid (fun w => in_yes kd 3 5 w (by omega) (by omega))
  have HB := Lib.hid (fun w => tb_N A1 c1 A2 c2 A3 c3 kd mt pt nm ks ov lm ts w)
  rw [decide_eq_true (show nm.length = 0 ∧ ks.length = 0 ∧ mt = 0 ∧ pt = 0 ∧ ov = false ∧ lm = 0 from ⟨h1, h2, h3, h4, h5, h6⟩)] at HB
  have j3 : (0 : Int) < (ts.length : Int) := by omega
  have j4 : ((ts.length : Int) == 1) = true := by rw [beq_iff_eq]; omega
  clear h1 h2 h3 h4 h5 h6 h7
  have hz0 := Lib.hid True.intro
  have h63 := hr.2.1
  replace hr := Lib.hid hr
  replace IH := Lib.hid IH
  generalize hR : errs (fun x => checkT n x (dp + 1)) ts = R
  replace hR : errs (fun x => checkT n x (dp + 1)) (ts.drop 0) = R := hR
  replace hR := Lib.hid hR
  have hP : Blk (w.alloc (.cells #[.int .i64 kd, .int .i64 mt, .int .i64 pt, .slice A1 nm.length c1, .slice A2 ks.length c2, .bool ov, .int .i64 lm, .slice A3 ts.length c3] 107)) w.heap.size [.int .i64 kd, .int .i64 mt, .int .i64 pt, .slice A1 nm.length c1, .slice A2 ks.length c2, .bool ov, .int .i64 lm, .slice A3 ts.length c3] := Blk.made w _ _
  have p0 := hP.at 0 _ rfl
  have p1 := hP.at 1 _ rfl
  have p2 := hP.at 2 _ rfl
  have p3 := hP.at 3 _ rfl
  have p4 := hP.at 4 _ rfl
  have p5 := hP.at 5 _ rfl
  have p6 := hP.at 6 _ rfl
  have p7 := hP.at 7 _ rfl
  go_enter Tryd.func165, Tryd.ntmps165
  go_wp2_with (go_at_call 52; (first | with_reducible refine (HI1.out _).mono ?_ | with_reducible refine (HI2.out _).mono ?_ | with_reducible refine (HI3.out _).mono ?_); rintro e w9 ⟨rfl, rfl⟩)
  refine (HB.out _).mono ?_
  rintro e w1 ⟨rfl, hb1⟩
  have hP1 := hP.below hb1 hP.lt
  have hB1 : Below w.heap.size w w1 := Below.trans (show Below w.heap.size w (w.alloc (.cells #[.int .i64 kd, .int .i64 mt, .int .i64 pt, .slice A1 nm.length c1, .slice A2 ks.length c2, .bool ov, .int .i64 lm, .slice A3 ts.length c3] 107)) from (by repeat (first | exact Below.refl _ _ | apply below_alloc | apply pw_below_drewN | apply below_drew1 | (refine Below.setCell ?_ (by first | (simp; done) | (simp; omega) | omega) _) ))) (hb1.mono (by simp))
  clear hP p0 p1 p2 p3 p4 p5 p6 p7 hb1
  have p0 := (hP1).at 0 _ rfl
  have p1 := (hP1).at 1 _ rfl
  have p2 := (hP1).at 2 _ rfl
  have p3 := (hP1).at 3 _ rfl
  have p4 := (hP1).at 4 _ rfl
  have p5 := (hP1).at 5 _ rfl
  have p6 := (hP1).at 6 _ rfl
  have p7 := (hP1).at 7 _ rfl
  go_wp2_with (go_at_call 52; (first | with_reducible refine (HI1.out _).mono ?_ | with_reducible refine (HI2.out _).mono ?_ | with_reducible refine (HI3.out _).mono ?_); rintro e w9 ⟨rfl, rfl⟩)
  clear p0 p1 p2 p3 p4 p5 p6 p7
  replace hR := hR.out
  have hPl := hP1.lt
  go_loopw [8] (fun i wr => ∃ k : Nat, k ≤ ts.length ∧ i = .int .i64 k ∧ errs (fun x => checkT n x (dp + 1)) (ts.drop k) = R ∧ Below w1.heap.size w1 wr) (fun i _ => ts.length - (intOf i).toNat)
  case atStart => exact ⟨0, Nat.zero_le _, rfl, hR, Below.refl _ _⟩
  case round =>
    clear hR
    obtain ⟨k, hk, rfl, hR, hB0⟩ := hrel
    have hB : Below w.heap.size w wr := hB1.trans (hB0.mono hB1.size)
    have p7 := (hP1.below hB0 hPl).at 7 _ rfl
    have pl := (hP1.below hB0 hPl).lt
    by_cases hlt : k < ts.length
    · obtain ⟨ad, cx, e1', hKx, hx0, hxj⟩ := elem_at (Kd.C_below hr.out hB) (kTest_sz n) k hlt
      subst e1'
      obtain ⟨x0, x1, x2, X3, l3, C3, X4, l4, C4, x5, x6, X7, l7, C7, rfl⟩ := testN_K hKx
      have q0 := hx0 _ rfl; have q1 := hxj 1 _ (by decide) rfl; have q2 := hxj 2 _ (by decide) rfl; have q3 := hxj 3 _ (by decide) rfl; have q4 := hxj 4 _ (by decide) rfl; have q5 := hxj 5 _ (by decide) rfl; have q6 := hxj 6 _ (by decide) rfl; have q7 := hxj 7 _ (by decide) rfl
      clear hx0 hxj
      have hbad := fun h => errs_bad (f := fun x => checkT n x (dp + 1)) hlt h
      have hgood := fun h => errs_good (f := fun x => checkT n x (dp + 1)) hlt h
      rw [hR] at hbad hgood
      clear hR
      have HX := Lib.hid (IH.out ts[k] _ (dp + 1) wr hKx (by omega) (by omega))
      generalize checkT n ts[k] (dp + 1) = v at *
      replace hbad := Lib.hid hbad
      replace hgood := Lib.hid hgood
      clear hKx
      have i0 : (0 : Int) ≤ (k : Int) := by omega
      have i1 : (k : Int) < (ts.length : Int) := by omega
      by_cases hv : v = 0
      · subst hv
        go_wp2_with fail
        refine HX.out.mono ?_
        rintro e w5 ⟨rfl, hb5⟩
        have hB5 : Below w1.heap.size w1 w5 := hB0.trans (hb5.mono hB0.size)
        go_wp2_with fail
        go_roundw
        case rel => exact ⟨k + 1, hlt, by go_num, (hgood.out (by trivial)).symm, hB5⟩
        case measure => simp [intOf]; omega
      · have hvb : (v != 0) = true := bne_iff_ne.mpr hv
        have hRv := Lib.hid (hbad.out hv)
        clear hv
        go_wp2_with fail
        refine HX.out.mono ?_
        rintro e w5 ⟨rfl, hb5⟩
        have hB5 : Below w.heap.size w w5 := hB.trans (hb5.mono hB.size)
        go_wp2_with fail
        go_ret
        exact ⟨by rw [hRv.out]; rfl, hB5⟩
    · obtain rfl : k = ts.length := by omega
      rw [errs_end] at hR
      subst hR
      have i1 : ¬ (ts.length : Int) < (ts.length : Int) := by omega
      go_wp2_with fail
      go_ret
      exact ⟨rfl, hB⟩

end Go.Proofs.YtijdghplfhfpaaaDoor.H

/- Scripts: a test in form, as the reference sees it: kind group L4. -/
namespace Go.Proofs.YtijdghplfhfpaaaDoor.H
open Go.RowKit Go.Proofs.YtijdghplfhfpaaaDoorW.PrintWords Go.Proofs.YtijdghplfhfpaaaDoorW.PrintLast Go.Proofs.YtijdghplfhfpaaaDoor.U
set_option linter.unusedVariables false
set_option linter.unusedSimpArgs false
set_option maxHeartbeats 2000000 in
set_option maxRecDepth 100000 in
theorem tf_okL4 (n : Nat) (IH : FtT n) (A1 : Option Addr) (c1 : Nat) (A2 : Option Addr) (c2 : Nat) (A3 : Option Addr) (c3 : Nat) (kd mt pt : Int) (nm ks : List ByteArray) (ov : Bool) (lm : Int) (ts : List (TestN n)) (dp : Int) (w : World) (h0 : 0 ≤ dp) (h6 : dp ≤ 6) (hr : (kTest n).C w A3 ts.length ts) (k1 : 4 ≤ kd) (k2 : kd ≤ 4) (hf : formT (⟨kd, mt, pt, nm, ks, ov, lm, ts⟩ : TestF (TestN n))) : Calls Tryd.prog 165 #[.agg #[.int .i64 kd, .int .i64 mt, .int .i64 pt, .slice A1 nm.length c1, .slice A2 ks.length c2, .bool ov, .int .i64 lm, .slice A3 ts.length c3], .int .i64 dp] w (fun e w' => e = .returned (.int .i64 (errs (fun x => checkT n x (dp + 1)) ts)) ∧ Below w.heap.size w w') := by
  have hf2 : nm.length = 0 ∧ ks.length = 0 ∧ mt = 0 ∧ pt = 0 ∧ ov = false ∧ lm = 0 ∧ 0 < ts.length := by
    simp only [formT] at hf
    rw [if_neg (by omega), if_neg (by omega), if_neg (by omega), if_neg (by omega), if_neg (by omega), if_pos (by omega)] at hf
    obtain ⟨h1, ⟨h2, h3⟩, h4, ⟨h5, h6⟩, h7⟩ := hf
    exact ⟨h1, h2, h3, h4, h5, h6, h7⟩
  clear hf
  obtain ⟨h1, h2, h3, h4, h5, h6, h7⟩ := hf2
  have e3 : ¬ 6 < dp := by omega
  have b6 : (kd == 6) = false := by rw [beq_eq_false_iff_ne]; omega
  have b9 : (kd == 9) = false := by rw [beq_eq_false_iff_ne]; omega
  have b10 : (kd == 10) = false := by rw [beq_eq_false_iff_ne]; omega
  have nk3 : (kd != 3) = true := by rw [bne_iff_ne]; omega
  have nk6 : (kd != 6) = true := by rw [bne_iff_ne]; omega
  have HI1 := Lib.hid (fun w => in_yes kd 1 10 w (by omega) (by omega))
  have HI2 := Lib.hid (fun w => in_no kd 6 8 w (by omega))
  have HI3 := Lib.hid (fun w => in_yes kd 3 5 w (by omega) (by omega))
  have HB := Lib.hid (fun w => tb_N A1 c1 A2 c2 A3 c3 kd mt pt nm ks ov lm ts w)
  rw [decide_eq_true (show nm.length = 0 ∧ ks.length = 0 ∧ mt = 0 ∧ pt = 0 ∧ ov = false ∧ lm = 0 from ⟨h1, h2, h3, h4, h5, h6⟩)] at HB
  have j3 : (0 : Int) < (ts.length : Int) := by omega
  clear h1 h2 h3 h4 h5 h6 h7
  have hz0 := Lib.hid True.intro
  have h63 := hr.2.1
  replace hr := Lib.hid hr
  replace IH := Lib.hid IH
  generalize hR : errs (fun x => checkT n x (dp + 1)) ts = R
  replace hR : errs (fun x => checkT n x (dp + 1)) (ts.drop 0) = R := hR
  replace hR := Lib.hid hR
  have hP : Blk (w.alloc (.cells #[.int .i64 kd, .int .i64 mt, .int .i64 pt, .slice A1 nm.length c1, .slice A2 ks.length c2, .bool ov, .int .i64 lm, .slice A3 ts.length c3] 107)) w.heap.size [.int .i64 kd, .int .i64 mt, .int .i64 pt, .slice A1 nm.length c1, .slice A2 ks.length c2, .bool ov, .int .i64 lm, .slice A3 ts.length c3] := Blk.made w _ _
  have p0 := hP.at 0 _ rfl
  have p1 := hP.at 1 _ rfl
  have p2 := hP.at 2 _ rfl
  have p3 := hP.at 3 _ rfl
  have p4 := hP.at 4 _ rfl
  have p5 := hP.at 5 _ rfl
  have p6 := hP.at 6 _ rfl
  have p7 := hP.at 7 _ rfl
  go_enter Tryd.func165, Tryd.ntmps165
  go_wp2_with (go_at_call 52; (first | with_reducible refine (HI1.out _).mono ?_ | with_reducible refine (HI2.out _).mono ?_ | with_reducible refine (HI3.out _).mono ?_); rintro e w9 ⟨rfl, rfl⟩)
  refine (HB.out _).mono ?_
  rintro e w1 ⟨rfl, hb1⟩
  have hP1 := hP.below hb1 hP.lt
  have hB1 : Below w.heap.size w w1 := Below.trans (show Below w.heap.size w (w.alloc (.cells #[.int .i64 kd, .int .i64 mt, .int .i64 pt, .slice A1 nm.length c1, .slice A2 ks.length c2, .bool ov, .int .i64 lm, .slice A3 ts.length c3] 107)) from (by repeat (first | exact Below.refl _ _ | apply below_alloc | apply pw_below_drewN | apply below_drew1 | (refine Below.setCell ?_ (by first | (simp; done) | (simp; omega) | omega) _) ))) (hb1.mono (by simp))
  clear hP p0 p1 p2 p3 p4 p5 p6 p7 hb1
  have p0 := (hP1).at 0 _ rfl
  have p1 := (hP1).at 1 _ rfl
  have p2 := (hP1).at 2 _ rfl
  have p3 := (hP1).at 3 _ rfl
  have p4 := (hP1).at 4 _ rfl
  have p5 := (hP1).at 5 _ rfl
  have p6 := (hP1).at 6 _ rfl
  have p7 := (hP1).at 7 _ rfl
  go_wp2_with (go_at_call 52; (first | with_reducible refine (HI1.out _).mono ?_ | with_reducible refine (HI2.out _).mono ?_ | with_reducible refine (HI3.out _).mono ?_); rintro e w9 ⟨rfl, rfl⟩)
  clear p0 p1 p2 p3 p4 p5 p6 p7
  replace hR := hR.out
  have hPl := hP1.lt
  go_loopw [8] (fun i wr => ∃ k : Nat, k ≤ ts.length ∧ i = .int .i64 k ∧ errs (fun x => checkT n x (dp + 1)) (ts.drop k) = R ∧ Below w1.heap.size w1 wr) (fun i _ => ts.length - (intOf i).toNat)
  case atStart => exact ⟨0, Nat.zero_le _, rfl, hR, Below.refl _ _⟩
  case round =>
    clear hR
    obtain ⟨k, hk, rfl, hR, hB0⟩ := hrel
    have hB : Below w.heap.size w wr := hB1.trans (hB0.mono hB1.size)
    have p7 := (hP1.below hB0 hPl).at 7 _ rfl
    have pl := (hP1.below hB0 hPl).lt
    by_cases hlt : k < ts.length
    · obtain ⟨ad, cx, e1', hKx, hx0, hxj⟩ := elem_at (Kd.C_below hr.out hB) (kTest_sz n) k hlt
      subst e1'
      obtain ⟨x0, x1, x2, X3, l3, C3, X4, l4, C4, x5, x6, X7, l7, C7, rfl⟩ := testN_K hKx
      have q0 := hx0 _ rfl; have q1 := hxj 1 _ (by decide) rfl; have q2 := hxj 2 _ (by decide) rfl; have q3 := hxj 3 _ (by decide) rfl; have q4 := hxj 4 _ (by decide) rfl; have q5 := hxj 5 _ (by decide) rfl; have q6 := hxj 6 _ (by decide) rfl; have q7 := hxj 7 _ (by decide) rfl
      clear hx0 hxj
      have hbad := fun h => errs_bad (f := fun x => checkT n x (dp + 1)) hlt h
      have hgood := fun h => errs_good (f := fun x => checkT n x (dp + 1)) hlt h
      rw [hR] at hbad hgood
      clear hR
      have HX := Lib.hid (IH.out ts[k] _ (dp + 1) wr hKx (by omega) (by omega))
      generalize checkT n ts[k] (dp + 1) = v at *
      replace hbad := Lib.hid hbad
      replace hgood := Lib.hid hgood
      clear hKx
      have i0 : (0 : Int) ≤ (k : Int) := by omega
      have i1 : (k : Int) < (ts.length : Int) := by omega
      by_cases hv : v = 0
      · subst hv
        go_wp2_with fail
        refine HX.out.mono ?_
        rintro e w5 ⟨rfl, hb5⟩
        have hB5 : Below w1.heap.size w1 w5 := hB0.trans (hb5.mono hB0.size)
        go_wp2_with fail
        go_roundw
        case rel => exact ⟨k + 1, hlt, by go_num, (hgood.out (by trivial)).symm, hB5⟩
        case measure => simp [intOf]; omega
      · have hvb : (v != 0) = true := bne_iff_ne.mpr hv
        have hRv := Lib.hid (hbad.out hv)
        clear hv
        go_wp2_with fail
        refine HX.out.mono ?_
        rintro e w5 ⟨rfl, hb5⟩
        have hB5 : Below w.heap.size w w5 := hB.trans (hb5.mono hB.size)
        go_wp2_with fail
        go_ret
        exact ⟨by rw [hRv.out]; rfl, hB5⟩
    · obtain rfl : k = ts.length := by omega
      rw [errs_end] at hR
      subst hR
      have i1 : ¬ (ts.length : Int) < (ts.length : Int) := by omega
      go_wp2_with fail
      go_ret
      exact ⟨rfl, hB⟩

end Go.Proofs.YtijdghplfhfpaaaDoor.H

/- Scripts: a test in form, as the reference sees it: kind group L5. -/
namespace Go.Proofs.YtijdghplfhfpaaaDoor.H
open Go.RowKit Go.Proofs.YtijdghplfhfpaaaDoorW.PrintWords Go.Proofs.YtijdghplfhfpaaaDoorW.PrintLast Go.Proofs.YtijdghplfhfpaaaDoor.U
set_option linter.unusedVariables false
set_option linter.unusedSimpArgs false
set_option maxHeartbeats 2000000 in
set_option maxRecDepth 100000 in
theorem tf_okL5 (n : Nat) (IH : FtT n) (A1 : Option Addr) (c1 : Nat) (A2 : Option Addr) (c2 : Nat) (A3 : Option Addr) (c3 : Nat) (kd mt pt : Int) (nm ks : List ByteArray) (ov : Bool) (lm : Int) (ts : List (TestN n)) (dp : Int) (w : World) (h0 : 0 ≤ dp) (h6 : dp ≤ 6) (hr : (kTest n).C w A3 ts.length ts) (k1 : 5 ≤ kd) (k2 : kd ≤ 5) (hf : formT (⟨kd, mt, pt, nm, ks, ov, lm, ts⟩ : TestF (TestN n))) : Calls Tryd.prog 165 #[.agg #[.int .i64 kd, .int .i64 mt, .int .i64 pt, .slice A1 nm.length c1, .slice A2 ks.length c2, .bool ov, .int .i64 lm, .slice A3 ts.length c3], .int .i64 dp] w (fun e w' => e = .returned (.int .i64 (errs (fun x => checkT n x (dp + 1)) ts)) ∧ Below w.heap.size w w') := by
  have hf2 : nm.length = 0 ∧ ks.length = 0 ∧ mt = 0 ∧ pt = 0 ∧ ov = false ∧ lm = 0 ∧ 0 < ts.length := by
    simp only [formT] at hf
    rw [if_neg (by omega), if_neg (by omega), if_neg (by omega), if_neg (by omega), if_neg (by omega), if_pos (by omega)] at hf
    obtain ⟨h1, ⟨h2, h3⟩, h4, ⟨h5, h6⟩, h7⟩ := hf
    exact ⟨h1, h2, h3, h4, h5, h6, h7⟩
  clear hf
  obtain ⟨h1, h2, h3, h4, h5, h6, h7⟩ := hf2
  have e3 : ¬ 6 < dp := by omega
  have b6 : (kd == 6) = false := by rw [beq_eq_false_iff_ne]; omega
  have b9 : (kd == 9) = false := by rw [beq_eq_false_iff_ne]; omega
  have b10 : (kd == 10) = false := by rw [beq_eq_false_iff_ne]; omega
  have nk3 : (kd != 3) = true := by rw [bne_iff_ne]; omega
  have nk6 : (kd != 6) = true := by rw [bne_iff_ne]; omega
  have HI1 := Lib.hid (fun w => in_yes kd 1 10 w (by omega) (by omega))
  have HI2 := Lib.hid (fun w => in_no kd 6 8 w (by omega))
  have HI3 := Lib.hid (fun w => in_yes kd 3 5 w (by omega) (by omega))
  have HB := Lib.hid (fun w => tb_N A1 c1 A2 c2 A3 c3 kd mt pt nm ks ov lm ts w)
  rw [decide_eq_true (show nm.length = 0 ∧ ks.length = 0 ∧ mt = 0 ∧ pt = 0 ∧ ov = false ∧ lm = 0 from ⟨h1, h2, h3, h4, h5, h6⟩)] at HB
  have j3 : (0 : Int) < (ts.length : Int) := by omega
  clear h1 h2 h3 h4 h5 h6 h7
  have hz0 := Lib.hid True.intro
  have h63 := hr.2.1
  replace hr := Lib.hid hr
  replace IH := Lib.hid IH
  generalize hR : errs (fun x => checkT n x (dp + 1)) ts = R
  replace hR : errs (fun x => checkT n x (dp + 1)) (ts.drop 0) = R := hR
  replace hR := Lib.hid hR
  have hP : Blk (w.alloc (.cells #[.int .i64 kd, .int .i64 mt, .int .i64 pt, .slice A1 nm.length c1, .slice A2 ks.length c2, .bool ov, .int .i64 lm, .slice A3 ts.length c3] 107)) w.heap.size [.int .i64 kd, .int .i64 mt, .int .i64 pt, .slice A1 nm.length c1, .slice A2 ks.length c2, .bool ov, .int .i64 lm, .slice A3 ts.length c3] := Blk.made w _ _
  have p0 := hP.at 0 _ rfl
  have p1 := hP.at 1 _ rfl
  have p2 := hP.at 2 _ rfl
  have p3 := hP.at 3 _ rfl
  have p4 := hP.at 4 _ rfl
  have p5 := hP.at 5 _ rfl
  have p6 := hP.at 6 _ rfl
  have p7 := hP.at 7 _ rfl
  go_enter Tryd.func165, Tryd.ntmps165
  go_wp2_with (go_at_call 52; (first | with_reducible refine (HI1.out _).mono ?_ | with_reducible refine (HI2.out _).mono ?_ | with_reducible refine (HI3.out _).mono ?_); rintro e w9 ⟨rfl, rfl⟩)
  refine (HB.out _).mono ?_
  rintro e w1 ⟨rfl, hb1⟩
  have hP1 := hP.below hb1 hP.lt
  have hB1 : Below w.heap.size w w1 := Below.trans (show Below w.heap.size w (w.alloc (.cells #[.int .i64 kd, .int .i64 mt, .int .i64 pt, .slice A1 nm.length c1, .slice A2 ks.length c2, .bool ov, .int .i64 lm, .slice A3 ts.length c3] 107)) from (by repeat (first | exact Below.refl _ _ | apply below_alloc | apply pw_below_drewN | apply below_drew1 | (refine Below.setCell ?_ (by first | (simp; done) | (simp; omega) | omega) _) ))) (hb1.mono (by simp))
  clear hP p0 p1 p2 p3 p4 p5 p6 p7 hb1
  have p0 := (hP1).at 0 _ rfl
  have p1 := (hP1).at 1 _ rfl
  have p2 := (hP1).at 2 _ rfl
  have p3 := (hP1).at 3 _ rfl
  have p4 := (hP1).at 4 _ rfl
  have p5 := (hP1).at 5 _ rfl
  have p6 := (hP1).at 6 _ rfl
  have p7 := (hP1).at 7 _ rfl
  go_wp2_with (go_at_call 52; (first | with_reducible refine (HI1.out _).mono ?_ | with_reducible refine (HI2.out _).mono ?_ | with_reducible refine (HI3.out _).mono ?_); rintro e w9 ⟨rfl, rfl⟩)
  clear p0 p1 p2 p3 p4 p5 p6 p7
  replace hR := hR.out
  have hPl := hP1.lt
  go_loopw [8] (fun i wr => ∃ k : Nat, k ≤ ts.length ∧ i = .int .i64 k ∧ errs (fun x => checkT n x (dp + 1)) (ts.drop k) = R ∧ Below w1.heap.size w1 wr) (fun i _ => ts.length - (intOf i).toNat)
  case atStart => exact ⟨0, Nat.zero_le _, rfl, hR, Below.refl _ _⟩
  case round =>
    clear hR
    obtain ⟨k, hk, rfl, hR, hB0⟩ := hrel
    have hB : Below w.heap.size w wr := hB1.trans (hB0.mono hB1.size)
    have p7 := (hP1.below hB0 hPl).at 7 _ rfl
    have pl := (hP1.below hB0 hPl).lt
    by_cases hlt : k < ts.length
    · obtain ⟨ad, cx, e1', hKx, hx0, hxj⟩ := elem_at (Kd.C_below hr.out hB) (kTest_sz n) k hlt
      subst e1'
      obtain ⟨x0, x1, x2, X3, l3, C3, X4, l4, C4, x5, x6, X7, l7, C7, rfl⟩ := testN_K hKx
      have q0 := hx0 _ rfl; have q1 := hxj 1 _ (by decide) rfl; have q2 := hxj 2 _ (by decide) rfl; have q3 := hxj 3 _ (by decide) rfl; have q4 := hxj 4 _ (by decide) rfl; have q5 := hxj 5 _ (by decide) rfl; have q6 := hxj 6 _ (by decide) rfl; have q7 := hxj 7 _ (by decide) rfl
      clear hx0 hxj
      have hbad := fun h => errs_bad (f := fun x => checkT n x (dp + 1)) hlt h
      have hgood := fun h => errs_good (f := fun x => checkT n x (dp + 1)) hlt h
      rw [hR] at hbad hgood
      clear hR
      have HX := Lib.hid (IH.out ts[k] _ (dp + 1) wr hKx (by omega) (by omega))
      generalize checkT n ts[k] (dp + 1) = v at *
      replace hbad := Lib.hid hbad
      replace hgood := Lib.hid hgood
      clear hKx
      have i0 : (0 : Int) ≤ (k : Int) := by omega
      have i1 : (k : Int) < (ts.length : Int) := by omega
      by_cases hv : v = 0
      · subst hv
        go_wp2_with fail
        refine HX.out.mono ?_
        rintro e w5 ⟨rfl, hb5⟩
        have hB5 : Below w1.heap.size w1 w5 := hB0.trans (hb5.mono hB0.size)
        go_wp2_with fail
        go_roundw
        case rel => exact ⟨k + 1, hlt, by go_num, (hgood.out (by trivial)).symm, hB5⟩
        case measure => simp [intOf]; omega
      · have hvb : (v != 0) = true := bne_iff_ne.mpr hv
        have hRv := Lib.hid (hbad.out hv)
        clear hv
        go_wp2_with fail
        refine HX.out.mono ?_
        rintro e w5 ⟨rfl, hb5⟩
        have hB5 : Below w.heap.size w w5 := hB.trans (hb5.mono hB.size)
        go_wp2_with fail
        go_ret
        exact ⟨by rw [hRv.out]; rfl, hB5⟩
    · obtain rfl : k = ts.length := by omega
      rw [errs_end] at hR
      subst hR
      have i1 : ¬ (ts.length : Int) < (ts.length : Int) := by omega
      go_wp2_with fail
      go_ret
      exact ⟨rfl, hB⟩

end Go.Proofs.YtijdghplfhfpaaaDoor.H

/- Scripts: a test in form, as the reference sees it: kind group H. -/
namespace Go.Proofs.YtijdghplfhfpaaaDoor.H
open Go.RowKit Go.Proofs.YtijdghplfhfpaaaDoorW.PrintWords Go.Proofs.YtijdghplfhfpaaaDoorW.PrintLast Go.Proofs.YtijdghplfhfpaaaDoor.U
set_option linter.unusedVariables false
set_option linter.unusedSimpArgs false
set_option maxHeartbeats 2000000 in
set_option maxRecDepth 100000 in
theorem tf_okH (n : Nat) (IH : FtT n) (A1 : Option Addr) (c1 : Nat) (A2 : Option Addr) (c2 : Nat) (A3 : Option Addr) (c3 : Nat) (kd mt pt : Int) (nm ks : List ByteArray) (ov : Bool) (lm : Int) (ts : List (TestN n)) (dp : Int) (w : World) (h0 : 0 ≤ dp) (h6 : dp ≤ 6) (hr : (kTest n).C w A3 ts.length ts) (k1 : 6 ≤ kd) (k2 : kd ≤ 6) (hf : formT (⟨kd, mt, pt, nm, ks, ov, lm, ts⟩ : TestF (TestN n))) : Calls Tryd.prog 165 #[.agg #[.int .i64 kd, .int .i64 mt, .int .i64 pt, .slice A1 nm.length c1, .slice A2 ks.length c2, .bool ov, .int .i64 lm, .slice A3 ts.length c3], .int .i64 dp] w (fun e w' => e = .returned (.int .i64 (errs (fun x => checkT n x (dp + 1)) ts)) ∧ Below w.heap.size w w') := by
  have hf2 : 0 < nm.length ∧ 0 < ks.length ∧ 1 ≤ mt ∧ mt ≤ 3 ∧ pt = 0 ∧ ov = false ∧ lm = 0 ∧ ts.length = 0 := by
    simp only [formT] at hf
    rw [if_pos (by omega), if_pos (by omega), if_neg (by omega), if_neg (by omega), if_neg (by omega), if_neg (by omega)] at hf
    obtain ⟨h1, ⟨h2, h3, h4⟩, h5, ⟨h6, h7⟩, h8⟩ := hf
    exact ⟨h1, h2, h3, h4, h5, h6, h7, h8⟩
  clear hf
  obtain ⟨h1, h2, h3, h4, h5, h6, h7, h8⟩ := hf2
  have e3 : ¬ 6 < dp := by omega
  have b6 : (kd == 6) = true := by rw [beq_iff_eq]; omega
  have b9 : (kd == 9) = false := by rw [beq_eq_false_iff_ne]; omega
  have b10 : (kd == 10) = false := by rw [beq_eq_false_iff_ne]; omega
  have nk3 : (kd != 3) = true := by rw [bne_iff_ne]; omega
  have nk6 : (kd != 6) = false := by rw [bne_eq_false_iff_eq]; omega
  have HI1 := Lib.hid (fun w => in_yes kd 1 10 w (by omega) (by omega))
  have HI2 := Lib.hid (fun w => in_yes kd 6 8 w (by omega) (by omega))
  have HI3 := Lib.hid (fun w => in_no kd 3 5 w (by omega))
  have HB := Lib.hid (fun w => tb_H A1 c1 A2 c2 A3 c3 kd mt pt nm ks ov lm ts w)
  rw [decide_eq_true (show pt = 0 ∧ ov = false ∧ lm = 0 ∧ ts.length = 0 from ⟨h5, h6, h7, h8⟩)] at HB
  have HIm := Lib.hid (fun w => in_yes mt 1 3 w (by omega) (by omega))
  have j1 : (0 : Int) < (nm.length : Int) := by omega
  have j2 : (0 : Int) < (ks.length : Int) := by omega
  have hz0 := Lib.hid h8
  clear h1 h2 h3 h4 h5 h6 h7 h8
  have h63 := hr.2.1
  replace hr := Lib.hid hr
  replace IH := Lib.hid IH
  generalize hR : errs (fun x => checkT n x (dp + 1)) ts = R
  replace hR : errs (fun x => checkT n x (dp + 1)) (ts.drop 0) = R := hR
  replace hR := Lib.hid hR
  have hP : Blk (w.alloc (.cells #[.int .i64 kd, .int .i64 mt, .int .i64 pt, .slice A1 nm.length c1, .slice A2 ks.length c2, .bool ov, .int .i64 lm, .slice A3 ts.length c3] 107)) w.heap.size [.int .i64 kd, .int .i64 mt, .int .i64 pt, .slice A1 nm.length c1, .slice A2 ks.length c2, .bool ov, .int .i64 lm, .slice A3 ts.length c3] := Blk.made w _ _
  have p0 := hP.at 0 _ rfl
  have p1 := hP.at 1 _ rfl
  have p2 := hP.at 2 _ rfl
  have p3 := hP.at 3 _ rfl
  have p4 := hP.at 4 _ rfl
  have p5 := hP.at 5 _ rfl
  have p6 := hP.at 6 _ rfl
  have p7 := hP.at 7 _ rfl
  go_enter Tryd.func165, Tryd.ntmps165
  go_wp2_with (go_at_call 52; (first | with_reducible refine (HI1.out _).mono ?_ | with_reducible refine (HI2.out _).mono ?_ | with_reducible refine (HI3.out _).mono ?_ | with_reducible refine (HIm.out _).mono ?_); rintro e w9 ⟨rfl, rfl⟩)
  refine (HB.out _).mono ?_
  rintro e w1 ⟨rfl, hb1⟩
  have hP1 := hP.below hb1 hP.lt
  have hB1 : Below w.heap.size w w1 := Below.trans (show Below w.heap.size w (w.alloc (.cells #[.int .i64 kd, .int .i64 mt, .int .i64 pt, .slice A1 nm.length c1, .slice A2 ks.length c2, .bool ov, .int .i64 lm, .slice A3 ts.length c3] 107)) from (by repeat (first | exact Below.refl _ _ | apply below_alloc | apply pw_below_drewN | apply below_drew1 | (refine Below.setCell ?_ (by first | (simp; done) | (simp; omega) | omega) _) ))) (hb1.mono (by simp))
  clear hP p0 p1 p2 p3 p4 p5 p6 p7 hb1
  have p0 := (hP1).at 0 _ rfl
  have p1 := (hP1).at 1 _ rfl
  have p2 := (hP1).at 2 _ rfl
  have p3 := (hP1).at 3 _ rfl
  have p4 := (hP1).at 4 _ rfl
  have p5 := (hP1).at 5 _ rfl
  have p6 := (hP1).at 6 _ rfl
  have p7 := (hP1).at 7 _ rfl
  go_wp2_with (go_at_call 52; (first | with_reducible refine (HI1.out _).mono ?_ | with_reducible refine (HI2.out _).mono ?_ | with_reducible refine (HI3.out _).mono ?_ | with_reducible refine (HIm.out _).mono ?_); rintro e w9 ⟨rfl, rfl⟩)
  clear p0 p1 p2 p3 p4 p5 p6 p7
  replace hR := hR.out
  have hPl := hP1.lt
  go_loopw [8] (fun i wr => ∃ k : Nat, k ≤ ts.length ∧ i = .int .i64 k ∧ errs (fun x => checkT n x (dp + 1)) (ts.drop k) = R ∧ Below w1.heap.size w1 wr) (fun i _ => ts.length - (intOf i).toNat)
  case atStart => exact ⟨0, Nat.zero_le _, rfl, hR, Below.refl _ _⟩
  case round =>
    clear hR
    obtain ⟨k, hk, rfl, hR, hB0⟩ := hrel
    have hB : Below w.heap.size w wr := hB1.trans (hB0.mono hB1.size)
    have p7 := (hP1.below hB0 hPl).at 7 _ rfl
    have pl := (hP1.below hB0 hPl).lt
    by_cases hlt : k < ts.length
    · exfalso; have := hz0.out; omega
    · obtain rfl : k = ts.length := by omega
      rw [errs_end] at hR
      subst hR
      have i1 : ¬ (ts.length : Int) < (ts.length : Int) := by omega
      go_wp2_with fail
      go_ret
      exact ⟨rfl, hB⟩

end Go.Proofs.YtijdghplfhfpaaaDoor.H

/- Scripts: a test in form, as the reference sees it: kind group D7. -/
namespace Go.Proofs.YtijdghplfhfpaaaDoor.H
open Go.RowKit Go.Proofs.YtijdghplfhfpaaaDoorW.PrintWords Go.Proofs.YtijdghplfhfpaaaDoorW.PrintLast Go.Proofs.YtijdghplfhfpaaaDoor.U
set_option linter.unusedVariables false
set_option linter.unusedSimpArgs false
set_option maxHeartbeats 2000000 in
set_option maxRecDepth 100000 in
theorem tf_okD7 (n : Nat) (IH : FtT n) (A1 : Option Addr) (c1 : Nat) (A2 : Option Addr) (c2 : Nat) (A3 : Option Addr) (c3 : Nat) (kd mt pt : Int) (nm ks : List ByteArray) (ov : Bool) (lm : Int) (ts : List (TestN n)) (dp : Int) (w : World) (h0 : 0 ≤ dp) (h6 : dp ≤ 6) (hr : (kTest n).C w A3 ts.length ts) (k1 : 7 ≤ kd) (k2 : kd ≤ 7) (hf : formT (⟨kd, mt, pt, nm, ks, ov, lm, ts⟩ : TestF (TestN n))) : Calls Tryd.prog 165 #[.agg #[.int .i64 kd, .int .i64 mt, .int .i64 pt, .slice A1 nm.length c1, .slice A2 ks.length c2, .bool ov, .int .i64 lm, .slice A3 ts.length c3], .int .i64 dp] w (fun e w' => e = .returned (.int .i64 (errs (fun x => checkT n x (dp + 1)) ts)) ∧ Below w.heap.size w w') := by
  have hf2 : 0 < nm.length ∧ 0 < ks.length ∧ 1 ≤ mt ∧ mt ≤ 3 ∧ 1 ≤ pt ∧ pt ≤ 3 ∧ ov = false ∧ lm = 0 ∧ ts.length = 0 := by
    simp only [formT] at hf
    rw [if_pos (by omega), if_pos (by omega), if_pos (by omega), if_neg (by omega), if_neg (by omega), if_neg (by omega)] at hf
    obtain ⟨h1, ⟨h2, h3, h4⟩, ⟨h5, h6⟩, ⟨h7, h8⟩, h9⟩ := hf
    exact ⟨h1, h2, h3, h4, h5, h6, h7, h8, h9⟩
  clear hf
  obtain ⟨h1, h2, h3, h4, h5, h6, h7, h8, h9⟩ := hf2
  have e3 : ¬ 6 < dp := by omega
  have b6 : (kd == 6) = false := by rw [beq_eq_false_iff_ne]; omega
  have b9 : (kd == 9) = false := by rw [beq_eq_false_iff_ne]; omega
  have b10 : (kd == 10) = false := by rw [beq_eq_false_iff_ne]; omega
  have nk3 : (kd != 3) = true := by rw [bne_iff_ne]; omega
  have nk6 : (kd != 6) = true := by rw [bne_iff_ne]; omega
  have HI1 := Lib.hid (fun w => in_yes kd 1 10 w (by omega) (by omega))
  have HI2 := Lib.hid (fun w => in_yes kd 6 8 w (by omega) (by omega))
  have HI3 := Lib.hid (fun w => in_no kd 3 5 w (by omega))
  have HB := Lib.hid (fun w => tb_D A1 c1 A2 c2 A3 c3 kd mt pt nm ks ov lm ts w)
  rw [decide_eq_true (show ov = false ∧ lm = 0 ∧ ts.length = 0 from ⟨h7, h8, h9⟩)] at HB
  have HIm := Lib.hid (fun w => in_yes mt 1 3 w (by omega) (by omega))
  have HIp := Lib.hid (fun w => in_yes pt 1 3 w (by omega) (by omega))
  have j1 : (0 : Int) < (nm.length : Int) := by omega
  have j2 : (0 : Int) < (ks.length : Int) := by omega
  have hz0 := Lib.hid h9
  clear h1 h2 h3 h4 h5 h6 h7 h8 h9
  have h63 := hr.2.1
  replace hr := Lib.hid hr
  replace IH := Lib.hid IH
  generalize hR : errs (fun x => checkT n x (dp + 1)) ts = R
  replace hR : errs (fun x => checkT n x (dp + 1)) (ts.drop 0) = R := hR
  replace hR := Lib.hid hR
  have hP : Blk (w.alloc (.cells #[.int .i64 kd, .int .i64 mt, .int .i64 pt, .slice A1 nm.length c1, .slice A2 ks.length c2, .bool ov, .int .i64 lm, .slice A3 ts.length c3] 107)) w.heap.size [.int .i64 kd, .int .i64 mt, .int .i64 pt, .slice A1 nm.length c1, .slice A2 ks.length c2, .bool ov, .int .i64 lm, .slice A3 ts.length c3] := Blk.made w _ _
  have p0 := hP.at 0 _ rfl
  have p1 := hP.at 1 _ rfl
  have p2 := hP.at 2 _ rfl
  have p3 := hP.at 3 _ rfl
  have p4 := hP.at 4 _ rfl
  have p5 := hP.at 5 _ rfl
  have p6 := hP.at 6 _ rfl
  have p7 := hP.at 7 _ rfl
  go_enter Tryd.func165, Tryd.ntmps165
  go_wp2_with (go_at_call 52; (first | with_reducible refine (HI1.out _).mono ?_ | with_reducible refine (HI2.out _).mono ?_ | with_reducible refine (HI3.out _).mono ?_ | with_reducible refine (HIm.out _).mono ?_ | with_reducible refine (HIp.out _).mono ?_); rintro e w9 ⟨rfl, rfl⟩)
  refine (HB.out _).mono ?_
  rintro e w1 ⟨rfl, hb1⟩
  have hP1 := hP.below hb1 hP.lt
  have hB1 : Below w.heap.size w w1 := Below.trans (show Below w.heap.size w (w.alloc (.cells #[.int .i64 kd, .int .i64 mt, .int .i64 pt, .slice A1 nm.length c1, .slice A2 ks.length c2, .bool ov, .int .i64 lm, .slice A3 ts.length c3] 107)) from (by repeat (first | exact Below.refl _ _ | apply below_alloc | apply pw_below_drewN | apply below_drew1 | (refine Below.setCell ?_ (by first | (simp; done) | (simp; omega) | omega) _) ))) (hb1.mono (by simp))
  clear hP p0 p1 p2 p3 p4 p5 p6 p7 hb1
  have p0 := (hP1).at 0 _ rfl
  have p1 := (hP1).at 1 _ rfl
  have p2 := (hP1).at 2 _ rfl
  have p3 := (hP1).at 3 _ rfl
  have p4 := (hP1).at 4 _ rfl
  have p5 := (hP1).at 5 _ rfl
  have p6 := (hP1).at 6 _ rfl
  have p7 := (hP1).at 7 _ rfl
  go_wp2_with (go_at_call 52; (first | with_reducible refine (HI1.out _).mono ?_ | with_reducible refine (HI2.out _).mono ?_ | with_reducible refine (HI3.out _).mono ?_ | with_reducible refine (HIm.out _).mono ?_ | with_reducible refine (HIp.out _).mono ?_); rintro e w9 ⟨rfl, rfl⟩)
  clear p0 p1 p2 p3 p4 p5 p6 p7
  replace hR := hR.out
  have hPl := hP1.lt
  go_loopw [8] (fun i wr => ∃ k : Nat, k ≤ ts.length ∧ i = .int .i64 k ∧ errs (fun x => checkT n x (dp + 1)) (ts.drop k) = R ∧ Below w1.heap.size w1 wr) (fun i _ => ts.length - (intOf i).toNat)
  case atStart => exact ⟨0, Nat.zero_le _, rfl, hR, Below.refl _ _⟩
  case round =>
    clear hR
    obtain ⟨k, hk, rfl, hR, hB0⟩ := hrel
    have hB : Below w.heap.size w wr := hB1.trans (hB0.mono hB1.size)
    have p7 := (hP1.below hB0 hPl).at 7 _ rfl
    have pl := (hP1.below hB0 hPl).lt
    by_cases hlt : k < ts.length
    · exfalso; have := hz0.out; omega
    · obtain rfl : k = ts.length := by omega
      rw [errs_end] at hR
      subst hR
      have i1 : ¬ (ts.length : Int) < (ts.length : Int) := by omega
      go_wp2_with fail
      go_ret
      exact ⟨rfl, hB⟩

end Go.Proofs.YtijdghplfhfpaaaDoor.H

/- Scripts: a test in form, as the reference sees it: kind group D8. -/
namespace Go.Proofs.YtijdghplfhfpaaaDoor.H
open Go.RowKit Go.Proofs.YtijdghplfhfpaaaDoorW.PrintWords Go.Proofs.YtijdghplfhfpaaaDoorW.PrintLast Go.Proofs.YtijdghplfhfpaaaDoor.U
set_option linter.unusedVariables false
set_option linter.unusedSimpArgs false
set_option maxHeartbeats 2000000 in
set_option maxRecDepth 100000 in
theorem tf_okD8 (n : Nat) (IH : FtT n) (A1 : Option Addr) (c1 : Nat) (A2 : Option Addr) (c2 : Nat) (A3 : Option Addr) (c3 : Nat) (kd mt pt : Int) (nm ks : List ByteArray) (ov : Bool) (lm : Int) (ts : List (TestN n)) (dp : Int) (w : World) (h0 : 0 ≤ dp) (h6 : dp ≤ 6) (hr : (kTest n).C w A3 ts.length ts) (k1 : 8 ≤ kd) (k2 : kd ≤ 8) (hf : formT (⟨kd, mt, pt, nm, ks, ov, lm, ts⟩ : TestF (TestN n))) : Calls Tryd.prog 165 #[.agg #[.int .i64 kd, .int .i64 mt, .int .i64 pt, .slice A1 nm.length c1, .slice A2 ks.length c2, .bool ov, .int .i64 lm, .slice A3 ts.length c3], .int .i64 dp] w (fun e w' => e = .returned (.int .i64 (errs (fun x => checkT n x (dp + 1)) ts)) ∧ Below w.heap.size w w') := by
  have hf2 : 0 < nm.length ∧ 0 < ks.length ∧ 1 ≤ mt ∧ mt ≤ 3 ∧ 1 ≤ pt ∧ pt ≤ 3 ∧ ov = false ∧ lm = 0 ∧ ts.length = 0 := by
    simp only [formT] at hf
    rw [if_pos (by omega), if_pos (by omega), if_pos (by omega), if_neg (by omega), if_neg (by omega), if_neg (by omega)] at hf
    obtain ⟨h1, ⟨h2, h3, h4⟩, ⟨h5, h6⟩, ⟨h7, h8⟩, h9⟩ := hf
    exact ⟨h1, h2, h3, h4, h5, h6, h7, h8, h9⟩
  clear hf
  obtain ⟨h1, h2, h3, h4, h5, h6, h7, h8, h9⟩ := hf2
  have e3 : ¬ 6 < dp := by omega
  have b6 : (kd == 6) = false := by rw [beq_eq_false_iff_ne]; omega
  have b9 : (kd == 9) = false := by rw [beq_eq_false_iff_ne]; omega
  have b10 : (kd == 10) = false := by rw [beq_eq_false_iff_ne]; omega
  have nk3 : (kd != 3) = true := by rw [bne_iff_ne]; omega
  have nk6 : (kd != 6) = true := by rw [bne_iff_ne]; omega
  have HI1 := Lib.hid (fun w => in_yes kd 1 10 w (by omega) (by omega))
  have HI2 := Lib.hid (fun w => in_yes kd 6 8 w (by omega) (by omega))
  have HI3 := Lib.hid (fun w => in_no kd 3 5 w (by omega))
  have HB := Lib.hid (fun w => tb_D A1 c1 A2 c2 A3 c3 kd mt pt nm ks ov lm ts w)
  rw [decide_eq_true (show ov = false ∧ lm = 0 ∧ ts.length = 0 from ⟨h7, h8, h9⟩)] at HB
  have HIm := Lib.hid (fun w => in_yes mt 1 3 w (by omega) (by omega))
  have HIp := Lib.hid (fun w => in_yes pt 1 3 w (by omega) (by omega))
  have j1 : (0 : Int) < (nm.length : Int) := by omega
  have j2 : (0 : Int) < (ks.length : Int) := by omega
  have hz0 := Lib.hid h9
  clear h1 h2 h3 h4 h5 h6 h7 h8 h9
  have h63 := hr.2.1
  replace hr := Lib.hid hr
  replace IH := Lib.hid IH
  generalize hR : errs (fun x => checkT n x (dp + 1)) ts = R
  replace hR : errs (fun x => checkT n x (dp + 1)) (ts.drop 0) = R := hR
  replace hR := Lib.hid hR
  have hP : Blk (w.alloc (.cells #[.int .i64 kd, .int .i64 mt, .int .i64 pt, .slice A1 nm.length c1, .slice A2 ks.length c2, .bool ov, .int .i64 lm, .slice A3 ts.length c3] 107)) w.heap.size [.int .i64 kd, .int .i64 mt, .int .i64 pt, .slice A1 nm.length c1, .slice A2 ks.length c2, .bool ov, .int .i64 lm, .slice A3 ts.length c3] := Blk.made w _ _
  have p0 := hP.at 0 _ rfl
  have p1 := hP.at 1 _ rfl
  have p2 := hP.at 2 _ rfl
  have p3 := hP.at 3 _ rfl
  have p4 := hP.at 4 _ rfl
  have p5 := hP.at 5 _ rfl
  have p6 := hP.at 6 _ rfl
  have p7 := hP.at 7 _ rfl
  go_enter Tryd.func165, Tryd.ntmps165
  go_wp2_with (go_at_call 52; (first | with_reducible refine (HI1.out _).mono ?_ | with_reducible refine (HI2.out _).mono ?_ | with_reducible refine (HI3.out _).mono ?_ | with_reducible refine (HIm.out _).mono ?_ | with_reducible refine (HIp.out _).mono ?_); rintro e w9 ⟨rfl, rfl⟩)
  refine (HB.out _).mono ?_
  rintro e w1 ⟨rfl, hb1⟩
  have hP1 := hP.below hb1 hP.lt
  have hB1 : Below w.heap.size w w1 := Below.trans (show Below w.heap.size w (w.alloc (.cells #[.int .i64 kd, .int .i64 mt, .int .i64 pt, .slice A1 nm.length c1, .slice A2 ks.length c2, .bool ov, .int .i64 lm, .slice A3 ts.length c3] 107)) from (by repeat (first | exact Below.refl _ _ | apply below_alloc | apply pw_below_drewN | apply below_drew1 | (refine Below.setCell ?_ (by first | (simp; done) | (simp; omega) | omega) _) ))) (hb1.mono (by simp))
  clear hP p0 p1 p2 p3 p4 p5 p6 p7 hb1
  have p0 := (hP1).at 0 _ rfl
  have p1 := (hP1).at 1 _ rfl
  have p2 := (hP1).at 2 _ rfl
  have p3 := (hP1).at 3 _ rfl
  have p4 := (hP1).at 4 _ rfl
  have p5 := (hP1).at 5 _ rfl
  have p6 := (hP1).at 6 _ rfl
  have p7 := (hP1).at 7 _ rfl
  go_wp2_with (go_at_call 52; (first | with_reducible refine (HI1.out _).mono ?_ | with_reducible refine (HI2.out _).mono ?_ | with_reducible refine (HI3.out _).mono ?_ | with_reducible refine (HIm.out _).mono ?_ | with_reducible refine (HIp.out _).mono ?_); rintro e w9 ⟨rfl, rfl⟩)
  clear p0 p1 p2 p3 p4 p5 p6 p7
  replace hR := hR.out
  have hPl := hP1.lt
  go_loopw [8] (fun i wr => ∃ k : Nat, k ≤ ts.length ∧ i = .int .i64 k ∧ errs (fun x => checkT n x (dp + 1)) (ts.drop k) = R ∧ Below w1.heap.size w1 wr) (fun i _ => ts.length - (intOf i).toNat)
  case atStart => exact ⟨0, Nat.zero_le _, rfl, hR, Below.refl _ _⟩
  case round =>
    clear hR
    obtain ⟨k, hk, rfl, hR, hB0⟩ := hrel
    have hB : Below w.heap.size w wr := hB1.trans (hB0.mono hB1.size)
    have p7 := (hP1.below hB0 hPl).at 7 _ rfl
    have pl := (hP1.below hB0 hPl).lt
    by_cases hlt : k < ts.length
    · exfalso; have := hz0.out; omega
    · obtain rfl : k = ts.length := by omega
      rw [errs_end] at hR
      subst hR
      have i1 : ¬ (ts.length : Int) < (ts.length : Int) := by omega
      go_wp2_with fail
      go_ret
      exact ⟨rfl, hB⟩

end Go.Proofs.YtijdghplfhfpaaaDoor.H

/- Scripts: a test in form, as the reference sees it: kind group E. -/
namespace Go.Proofs.YtijdghplfhfpaaaDoor.H
open Go.RowKit Go.Proofs.YtijdghplfhfpaaaDoorW.PrintWords Go.Proofs.YtijdghplfhfpaaaDoorW.PrintLast Go.Proofs.YtijdghplfhfpaaaDoor.U
set_option linter.unusedVariables false
set_option linter.unusedSimpArgs false
set_option maxHeartbeats 2000000 in
set_option maxRecDepth 100000 in
theorem tf_okE (n : Nat) (IH : FtT n) (A1 : Option Addr) (c1 : Nat) (A2 : Option Addr) (c2 : Nat) (A3 : Option Addr) (c3 : Nat) (kd mt pt : Int) (nm ks : List ByteArray) (ov : Bool) (lm : Int) (ts : List (TestN n)) (dp : Int) (w : World) (h0 : 0 ≤ dp) (h6 : dp ≤ 6) (hr : (kTest n).C w A3 ts.length ts) (k1 : 9 ≤ kd) (k2 : kd ≤ 9) (hf : formT (⟨kd, mt, pt, nm, ks, ov, lm, ts⟩ : TestF (TestN n))) : Calls Tryd.prog 165 #[.agg #[.int .i64 kd, .int .i64 mt, .int .i64 pt, .slice A1 nm.length c1, .slice A2 ks.length c2, .bool ov, .int .i64 lm, .slice A3 ts.length c3], .int .i64 dp] w (fun e w' => e = .returned (.int .i64 (errs (fun x => checkT n x (dp + 1)) ts)) ∧ Below w.heap.size w w') := by
  have hf2 : 0 < nm.length ∧ ks.length = 0 ∧ mt = 0 ∧ pt = 0 ∧ ov = false ∧ lm = 0 ∧ ts.length = 0 := by
    simp only [formT] at hf
    rw [if_pos (by omega), if_neg (by omega), if_neg (by omega), if_neg (by omega), if_neg (by omega), if_neg (by omega)] at hf
    obtain ⟨h1, ⟨h2, h3⟩, h4, ⟨h5, h6⟩, h7⟩ := hf
    exact ⟨h1, h2, h3, h4, h5, h6, h7⟩
  clear hf
  obtain ⟨h1, h2, h3, h4, h5, h6, h7⟩ := hf2
  have e3 : ¬ 6 < dp := by omega
  have b6 : (kd == 6) = false := by rw [beq_eq_false_iff_ne]; omega
  have b9 : (kd == 9) = true := by rw [beq_iff_eq]; omega
  have b10 : (kd == 10) = false := by rw [beq_eq_false_iff_ne]; omega
  have nk3 : (kd != 3) = true := by rw [bne_iff_ne]; omega
  have nk6 : (kd != 6) = true := by rw [bne_iff_ne]; omega
  have HI1 := Lib.hid (fun w => in_yes kd 1 10 w (by omega) (by omega))
  have HI2 := Lib.hid (fun w => in_no kd 6 8 w (by omega))
  have HI3 := Lib.hid (fun w => in_no kd 3 5 w (by omega))
  have HB := Lib.hid (fun w => tb_E A1 c1 A2 c2 A3 c3 kd mt pt nm ks ov lm ts w)
  rw [decide_eq_true (show ks.length = 0 ∧ mt = 0 ∧ pt = 0 ∧ ov = false ∧ lm = 0 ∧ ts.length = 0 from ⟨h2, h3, h4, h5, h6, h7⟩)] at HB
  have j1 : (0 : Int) < (nm.length : Int) := by omega
  have j1n : 0 < nm.length := by omega
  have hz0 := Lib.hid h7
  clear h1 h2 h3 h4 h5 h6 h7
  have h63 := hr.2.1
  replace hr := Lib.hid hr
  replace IH := Lib.hid IH
  generalize hR : errs (fun x => checkT n x (dp + 1)) ts = R
  replace hR : errs (fun x => checkT n x (dp + 1)) (ts.drop 0) = R := hR
  replace hR := Lib.hid hR
  have hP : Blk (w.alloc (.cells #[.int .i64 kd, .int .i64 mt, .int .i64 pt, .slice A1 nm.length c1, .slice A2 ks.length c2, .bool ov, .int .i64 lm, .slice A3 ts.length c3] 107)) w.heap.size [.int .i64 kd, .int .i64 mt, .int .i64 pt, .slice A1 nm.length c1, .slice A2 ks.length c2, .bool ov, .int .i64 lm, .slice A3 ts.length c3] := Blk.made w _ _
  have p0 := hP.at 0 _ rfl
  have p1 := hP.at 1 _ rfl
  have p2 := hP.at 2 _ rfl
  have p3 := hP.at 3 _ rfl
  have p4 := hP.at 4 _ rfl
  have p5 := hP.at 5 _ rfl
  have p6 := hP.at 6 _ rfl
  have p7 := hP.at 7 _ rfl
  go_enter Tryd.func165, Tryd.ntmps165
  go_wp2_with (go_at_call 52; (first | with_reducible refine (HI1.out _).mono ?_ | with_reducible refine (HI2.out _).mono ?_ | with_reducible refine (HI3.out _).mono ?_); rintro e w9 ⟨rfl, rfl⟩)
  refine (HB.out _).mono ?_
  rintro e w1 ⟨rfl, hb1⟩
  have hP1 := hP.below hb1 hP.lt
  have hB1 : Below w.heap.size w w1 := Below.trans (show Below w.heap.size w (w.alloc (.cells #[.int .i64 kd, .int .i64 mt, .int .i64 pt, .slice A1 nm.length c1, .slice A2 ks.length c2, .bool ov, .int .i64 lm, .slice A3 ts.length c3] 107)) from (by repeat (first | exact Below.refl _ _ | apply below_alloc | apply pw_below_drewN | apply below_drew1 | (refine Below.setCell ?_ (by first | (simp; done) | (simp; omega) | omega) _) ))) (hb1.mono (by simp))
  clear hP p0 p1 p2 p3 p4 p5 p6 p7 hb1
  have p0 := (hP1).at 0 _ rfl
  have p1 := (hP1).at 1 _ rfl
  have p2 := (hP1).at 2 _ rfl
  have p3 := (hP1).at 3 _ rfl
  have p4 := (hP1).at 4 _ rfl
  have p5 := (hP1).at 5 _ rfl
  have p6 := (hP1).at 6 _ rfl
  have p7 := (hP1).at 7 _ rfl
  go_wp2_with (go_at_call 52; (first | with_reducible refine (HI1.out _).mono ?_ | with_reducible refine (HI2.out _).mono ?_ | with_reducible refine (HI3.out _).mono ?_); rintro e w9 ⟨rfl, rfl⟩)
  clear p0 p1 p2 p3 p4 p5 p6 p7
  replace hR := hR.out
  have hPl := hP1.lt
  go_loopw [8] (fun i wr => ∃ k : Nat, k ≤ ts.length ∧ i = .int .i64 k ∧ errs (fun x => checkT n x (dp + 1)) (ts.drop k) = R ∧ Below w1.heap.size w1 wr) (fun i _ => ts.length - (intOf i).toNat)
  case atStart => exact ⟨0, Nat.zero_le _, rfl, hR, Below.refl _ _⟩
  case round =>
    clear hR
    obtain ⟨k, hk, rfl, hR, hB0⟩ := hrel
    have hB : Below w.heap.size w wr := hB1.trans (hB0.mono hB1.size)
    have p7 := (hP1.below hB0 hPl).at 7 _ rfl
    have pl := (hP1.below hB0 hPl).lt
    by_cases hlt : k < ts.length
    · exfalso; have := hz0.out; omega
    · obtain rfl : k = ts.length := by omega
      rw [errs_end] at hR
      subst hR
      have i1 : ¬ (ts.length : Int) < (ts.length : Int) := by omega
      go_wp2_with fail
      go_ret
      exact ⟨rfl, hB⟩

end Go.Proofs.YtijdghplfhfpaaaDoor.H

/- Scripts: a test in form, as the reference sees it: kind group S. -/
namespace Go.Proofs.YtijdghplfhfpaaaDoor.H
open Go.RowKit Go.Proofs.YtijdghplfhfpaaaDoorW.PrintWords Go.Proofs.YtijdghplfhfpaaaDoorW.PrintLast Go.Proofs.YtijdghplfhfpaaaDoor.U
set_option linter.unusedVariables false
set_option linter.unusedSimpArgs false
set_option maxHeartbeats 2000000 in
set_option maxRecDepth 100000 in
theorem tf_okS (n : Nat) (IH : FtT n) (A1 : Option Addr) (c1 : Nat) (A2 : Option Addr) (c2 : Nat) (A3 : Option Addr) (c3 : Nat) (kd mt pt : Int) (nm ks : List ByteArray) (ov : Bool) (lm : Int) (ts : List (TestN n)) (dp : Int) (w : World) (h0 : 0 ≤ dp) (h6 : dp ≤ 6) (hr : (kTest n).C w A3 ts.length ts) (k1 : 10 ≤ kd) (k2 : kd ≤ 10) (hf : formT (⟨kd, mt, pt, nm, ks, ov, lm, ts⟩ : TestF (TestN n))) : Calls Tryd.prog 165 #[.agg #[.int .i64 kd, .int .i64 mt, .int .i64 pt, .slice A1 nm.length c1, .slice A2 ks.length c2, .bool ov, .int .i64 lm, .slice A3 ts.length c3], .int .i64 dp] w (fun e w' => e = .returned (.int .i64 (errs (fun x => checkT n x (dp + 1)) ts)) ∧ Below w.heap.size w w') := by
  have hf2 : nm.length = 0 ∧ ks.length = 0 ∧ mt = 0 ∧ pt = 0 ∧ 0 ≤ lm ∧ lm ≤ 2147483647 ∧ ts.length = 0 := by
    simp only [formT] at hf
    rw [if_neg (by omega), if_neg (by omega), if_neg (by omega), if_pos (by omega), if_neg (by omega), if_neg (by omega)] at hf
    obtain ⟨h1, ⟨h2, h3⟩, h4, ⟨h5, h6⟩, h7⟩ := hf
    exact ⟨h1, h2, h3, h4, h5, h6, h7⟩
  clear hf
  obtain ⟨h1, h2, h3, h4, h5, h6, h7⟩ := hf2
  have e3 : ¬ 6 < dp := by omega
  have b6 : (kd == 6) = false := by rw [beq_eq_false_iff_ne]; omega
  have b9 : (kd == 9) = false := by rw [beq_eq_false_iff_ne]; omega
  have b10 : (kd == 10) = true := by rw [beq_iff_eq]; omega
  have nk3 : (kd != 3) = true := by rw [bne_iff_ne]; omega
  have nk6 : (kd != 6) = true := by rw [bne_iff_ne]; omega
  have HI1 := Lib.hid (fun w => in_yes kd 1 10 w (by omega) (by omega))
  have HI2 := Lib.hid (fun w => in_no kd 6 8 w (by omega))
  have HI3 := Lib.hid (fun w => in_no kd 3 5 w (by omega))
  have HB := Lib.hid (fun w => tb_S A1 c1 A2 c2 A3 c3 kd mt pt nm ks ov lm ts w)
  rw [decide_eq_true (show nm.length = 0 ∧ ks.length = 0 ∧ mt = 0 ∧ pt = 0 ∧ ts.length = 0 from ⟨h1, h2, h3, h4, h7⟩)] at HB
  have HIl := Lib.hid (fun w => in_yes lm 0 2147483647 w (by omega) (by omega))
  have hz0 := Lib.hid h7
  clear h1 h2 h3 h4 h5 h6 h7
  have h63 := hr.2.1
  replace hr := Lib.hid hr
  replace IH := Lib.hid IH
  generalize hR : errs (fun x => checkT n x (dp + 1)) ts = R
  replace hR : errs (fun x => checkT n x (dp + 1)) (ts.drop 0) = R := hR
  replace hR := Lib.hid hR
  have hP : Blk (w.alloc (.cells #[.int .i64 kd, .int .i64 mt, .int .i64 pt, .slice A1 nm.length c1, .slice A2 ks.length c2, .bool ov, .int .i64 lm, .slice A3 ts.length c3] 107)) w.heap.size [.int .i64 kd, .int .i64 mt, .int .i64 pt, .slice A1 nm.length c1, .slice A2 ks.length c2, .bool ov, .int .i64 lm, .slice A3 ts.length c3] := Blk.made w _ _
  have p0 := hP.at 0 _ rfl
  have p1 := hP.at 1 _ rfl
  have p2 := hP.at 2 _ rfl
  have p3 := hP.at 3 _ rfl
  have p4 := hP.at 4 _ rfl
  have p5 := hP.at 5 _ rfl
  have p6 := hP.at 6 _ rfl
  have p7 := hP.at 7 _ rfl
  go_enter Tryd.func165, Tryd.ntmps165
  go_wp2_with (go_at_call 52; (first | with_reducible refine (HI1.out _).mono ?_ | with_reducible refine (HI2.out _).mono ?_ | with_reducible refine (HI3.out _).mono ?_ | with_reducible refine (HIl.out _).mono ?_); rintro e w9 ⟨rfl, rfl⟩)
  refine (HB.out _).mono ?_
  rintro e w1 ⟨rfl, hb1⟩
  have hP1 := hP.below hb1 hP.lt
  have hB1 : Below w.heap.size w w1 := Below.trans (show Below w.heap.size w (w.alloc (.cells #[.int .i64 kd, .int .i64 mt, .int .i64 pt, .slice A1 nm.length c1, .slice A2 ks.length c2, .bool ov, .int .i64 lm, .slice A3 ts.length c3] 107)) from (by repeat (first | exact Below.refl _ _ | apply below_alloc | apply pw_below_drewN | apply below_drew1 | (refine Below.setCell ?_ (by first | (simp; done) | (simp; omega) | omega) _) ))) (hb1.mono (by simp))
  clear hP p0 p1 p2 p3 p4 p5 p6 p7 hb1
  have p0 := (hP1).at 0 _ rfl
  have p1 := (hP1).at 1 _ rfl
  have p2 := (hP1).at 2 _ rfl
  have p3 := (hP1).at 3 _ rfl
  have p4 := (hP1).at 4 _ rfl
  have p5 := (hP1).at 5 _ rfl
  have p6 := (hP1).at 6 _ rfl
  have p7 := (hP1).at 7 _ rfl
  go_wp2_with (go_at_call 52; (first | with_reducible refine (HI1.out _).mono ?_ | with_reducible refine (HI2.out _).mono ?_ | with_reducible refine (HI3.out _).mono ?_ | with_reducible refine (HIl.out _).mono ?_); rintro e w9 ⟨rfl, rfl⟩)
  clear p0 p1 p2 p3 p4 p5 p6 p7
  replace hR := hR.out
  have hPl := hP1.lt
  go_loopw [8] (fun i wr => ∃ k : Nat, k ≤ ts.length ∧ i = .int .i64 k ∧ errs (fun x => checkT n x (dp + 1)) (ts.drop k) = R ∧ Below w1.heap.size w1 wr) (fun i _ => ts.length - (intOf i).toNat)
  case atStart => exact ⟨0, Nat.zero_le _, rfl, hR, Below.refl _ _⟩
  case round =>
    clear hR
    obtain ⟨k, hk, rfl, hR, hB0⟩ := hrel
    have hB : Below w.heap.size w wr := hB1.trans (hB0.mono hB1.size)
    have p7 := (hP1.below hB0 hPl).at 7 _ rfl
    have pl := (hP1.below hB0 hPl).lt
    by_cases hlt : k < ts.length
    · exfalso; have := hz0.out; omega
    · obtain rfl : k = ts.length := by omega
      rw [errs_end] at hR
      subst hR
      have i1 : ¬ (ts.length : Int) < (ts.length : Int) := by omega
      go_wp2_with fail
      go_ret
      exact ⟨rfl, hB⟩

end Go.Proofs.YtijdghplfhfpaaaDoor.H

/- Scripts: the reference's form of tests, whole; elsif; lists of commands. -/
namespace Go.Proofs.YtijdghplfhfpaaaDoor.H
open Go.RowKit Go.Proofs.YtijdghplfhfpaaaDoorW.PrintWords Go.Proofs.YtijdghplfhfpaaaDoorW.PrintLast Go.Proofs.YtijdghplfhfpaaaDoor.U
set_option linter.unusedVariables false
set_option linter.unusedSimpArgs false
set_option maxHeartbeats 1000000 in
set_option maxRecDepth 100000 in
theorem tf_kind (A1 : Option Addr) (c1 : Nat) (A2 : Option Addr) (c2 : Nat) (A3 : Option Addr) (c3 : Nat) (kd mt pt : Int) (nm ks : List ByteArray) (ov : Bool) (lm : Int) (n : Nat) (ts : List (TestN n)) (dp : Int) (w : World) (h : kd < 1 ∨ 10 < kd) :
    Calls Tryd.prog 165 #[.agg #[.int .i64 kd, .int .i64 mt, .int .i64 pt, .slice A1 nm.length c1, .slice A2 ks.length c2, .bool ov, .int .i64 lm, .slice A3 ts.length c3], .int .i64 dp] w (fun e w' => e = .returned (.int .i64 2) ∧ Below w.heap.size w w') := by
  have HI := Lib.hid (fun w => in_no kd 1 10 w (by omega))
  clear h
  have hP : Blk (w.alloc (.cells #[.int .i64 kd, .int .i64 mt, .int .i64 pt, .slice A1 nm.length c1, .slice A2 ks.length c2, .bool ov, .int .i64 lm, .slice A3 ts.length c3] 107)) w.heap.size [.int .i64 kd, .int .i64 mt, .int .i64 pt, .slice A1 nm.length c1, .slice A2 ks.length c2, .bool ov, .int .i64 lm, .slice A3 ts.length c3] := Blk.made w _ _
  have p0 := hP.at 0 _ rfl
  have p1 := hP.at 1 _ rfl
  have p2 := hP.at 2 _ rfl
  have p3 := hP.at 3 _ rfl
  have p4 := hP.at 4 _ rfl
  have p5 := hP.at 5 _ rfl
  have p6 := hP.at 6 _ rfl
  have p7 := hP.at 7 _ rfl
  go_enter Tryd.func165, Tryd.ntmps165
  go_wp2_with (go_at_call 52; refine (HI.out _).mono ?_; rintro e w9 ⟨rfl, rfl⟩)
  go_ret
  exact ⟨rfl, (by repeat (first | exact Below.refl _ _ | apply below_alloc | apply pw_below_drewN | apply below_drew1 | (refine Below.setCell ?_ (by first | (simp; done) | (simp; omega) | omega) _) ))⟩
set_option maxHeartbeats 1000000 in
set_option maxRecDepth 100000 in
theorem tf_deep (A1 : Option Addr) (c1 : Nat) (A2 : Option Addr) (c2 : Nat) (A3 : Option Addr) (c3 : Nat) (kd mt pt : Int) (nm ks : List ByteArray) (ov : Bool) (lm : Int) (n : Nat) (ts : List (TestN n)) (dp : Int) (w : World) (h : ¬ (kd < 1 ∨ 10 < kd)) (hd : 6 < dp) :
    Calls Tryd.prog 165 #[.agg #[.int .i64 kd, .int .i64 mt, .int .i64 pt, .slice A1 nm.length c1, .slice A2 ks.length c2, .bool ov, .int .i64 lm, .slice A3 ts.length c3], .int .i64 dp] w (fun e w' => e = .returned (.int .i64 1) ∧ Below w.heap.size w w') := by
  have HI := Lib.hid (fun w => in_yes kd 1 10 w (by omega) (by omega))
  clear h
  have hP : Blk (w.alloc (.cells #[.int .i64 kd, .int .i64 mt, .int .i64 pt, .slice A1 nm.length c1, .slice A2 ks.length c2, .bool ov, .int .i64 lm, .slice A3 ts.length c3] 107)) w.heap.size [.int .i64 kd, .int .i64 mt, .int .i64 pt, .slice A1 nm.length c1, .slice A2 ks.length c2, .bool ov, .int .i64 lm, .slice A3 ts.length c3] := Blk.made w _ _
  have p0 := hP.at 0 _ rfl
  have p1 := hP.at 1 _ rfl
  have p2 := hP.at 2 _ rfl
  have p3 := hP.at 3 _ rfl
  have p4 := hP.at 4 _ rfl
  have p5 := hP.at 5 _ rfl
  have p6 := hP.at 6 _ rfl
  have p7 := hP.at 7 _ rfl
  go_enter Tryd.func165, Tryd.ntmps165
  go_wp2_with (go_at_call 52; refine (HI.out _).mono ?_; rintro e w9 ⟨rfl, rfl⟩)
  go_ret
  exact ⟨rfl, (by repeat (first | exact Below.refl _ _ | apply below_alloc | apply pw_below_drewN | apply below_drew1 | (refine Below.setCell ?_ (by first | (simp; done) | (simp; omega) | omega) _) ))⟩
theorem testFault_step (n : Nat) (IH : FtT n) : FtT (n + 1) := by
  intro t cs dp w hK h0 h10
  obtain ⟨A1, c1, A2, c2, A3, c3, rfl, _, _, _, hr⟩ := test_K hK
  obtain ⟨kd, mt, pt, nm, ks, ov, lm, ts⟩ := t
  simp only at hr
  show Calls _ _ _ w fun e w' => e = .returned (.int .i64 (chkT (checkT n) ⟨kd, mt, pt, nm, ks, ov, lm, ts⟩ dp)) ∧ Below w.heap.size w w'
  unfold chkT
  simp only
  by_cases hk : kd < 1 ∨ 10 < kd
  · rw [if_pos hk]
    exact tf_kind A1 c1 A2 c2 A3 c3 kd mt pt nm ks ov lm n ts dp w hk
  · rw [if_neg hk]
    by_cases hd : 6 < dp
    · rw [if_pos hd]
      exact tf_deep A1 c1 A2 c2 A3 c3 kd mt pt nm ks ov lm n ts dp w hk hd
    · rw [if_neg hd]
      by_cases hf : formT (⟨kd, mt, pt, nm, ks, ov, lm, ts⟩ : TestF (TestN n))
      · rw [if_pos hf]
        rcases (by omega : kd ≤ 2 ∨ kd = 3 ∨ kd = 4 ∨ kd = 5 ∨ kd = 6 ∨ kd = 7 ∨ kd = 8 ∨ kd = 9 ∨ kd = 10) with h | h | h | h | h | h | h | h | h
        · exact tf_okA n IH A1 c1 A2 c2 A3 c3 kd mt pt nm ks ov lm ts dp w h0 (by omega) hr (by omega) (by omega) hf
        · exact tf_okN n IH A1 c1 A2 c2 A3 c3 kd mt pt nm ks ov lm ts dp w h0 (by omega) hr (by omega) (by omega) hf
        · exact tf_okL4 n IH A1 c1 A2 c2 A3 c3 kd mt pt nm ks ov lm ts dp w h0 (by omega) hr (by omega) (by omega) hf
        · exact tf_okL5 n IH A1 c1 A2 c2 A3 c3 kd mt pt nm ks ov lm ts dp w h0 (by omega) hr (by omega) (by omega) hf
        · exact tf_okH n IH A1 c1 A2 c2 A3 c3 kd mt pt nm ks ov lm ts dp w h0 (by omega) hr (by omega) (by omega) hf
        · exact tf_okD7 n IH A1 c1 A2 c2 A3 c3 kd mt pt nm ks ov lm ts dp w h0 (by omega) hr (by omega) (by omega) hf
        · exact tf_okD8 n IH A1 c1 A2 c2 A3 c3 kd mt pt nm ks ov lm ts dp w h0 (by omega) hr (by omega) (by omega) hf
        · exact tf_okE n IH A1 c1 A2 c2 A3 c3 kd mt pt nm ks ov lm ts dp w h0 (by omega) hr (by omega) (by omega) hf
        · exact tf_okS n IH A1 c1 A2 c2 A3 c3 kd mt pt nm ks ov lm ts dp w h0 (by omega) hr (by omega) (by omega) hf
      · rw [if_neg hf]
        rcases (by omega : kd ≤ 2 ∨ kd = 3 ∨ (4 ≤ kd ∧ kd ≤ 5) ∨ kd = 6 ∨ (7 ≤ kd ∧ kd ≤ 8) ∨ kd = 9 ∨ kd = 10) with h | h | h | h | h | h | h
        · exact tf_A n A1 c1 A2 c2 A3 c3 kd mt pt nm ks ov lm ts dp w h0 (by omega) (by omega) (by omega) hf
        · exact tf_N n A1 c1 A2 c2 A3 c3 kd mt pt nm ks ov lm ts dp w h0 (by omega) (by omega) (by omega) hf
        · exact tf_L n A1 c1 A2 c2 A3 c3 kd mt pt nm ks ov lm ts dp w h0 (by omega) (by omega) (by omega) hf
        · exact tf_H n A1 c1 A2 c2 A3 c3 kd mt pt nm ks ov lm ts dp w h0 (by omega) (by omega) (by omega) hf
        · exact tf_D n A1 c1 A2 c2 A3 c3 kd mt pt nm ks ov lm ts dp w h0 (by omega) (by omega) (by omega) hf
        · exact tf_E n A1 c1 A2 c2 A3 c3 kd mt pt nm ks ov lm ts dp w h0 (by omega) (by omega) (by omega) hf
        · exact tf_S n A1 c1 A2 c2 A3 c3 kd mt pt nm ks ov lm ts dp w h0 (by omega) (by omega) (by omega) hf
theorem testFault_calls : ∀ n, FtT n
  | 0 => fun t => nomatch t
  | n + 1 => testFault_step n (testFault_calls n)
end Go.Proofs.YtijdghplfhfpaaaDoor.H

/- Scripts: elsif; the reference's form of lists of commands, and of an if. -/
namespace Go.Proofs.YtijdghplfhfpaaaDoor.H
open Go.RowKit Go.Proofs.YtijdghplfhfpaaaDoorW.PrintWords Go.Proofs.YtijdghplfhfpaaaDoorW.PrintLast Go.Proofs.YtijdghplfhfpaaaDoor.U
set_option linter.unusedVariables false
set_option linter.unusedSimpArgs false
def FtC (n : Nat) : Prop := ∀ (x : CmdN n) (cs : List Value) (dp : Int) (w : World), (kCmd n).K w x cs → 0 ≤ dp → dp ≤ 10 →
  Calls Tryd.prog 115 #[.agg cs.toArray, .int .i64 dp] w fun e w' => e = .returned (.int .i64 (checkC n x dp)) ∧ Below w.heap.size w w'
def FtL (n : Nat) : Prop := ∀ (A : Option Addr) (c : Nat) (l : List (CmdN n)) (dp : Int) (w : World), (kCmd n).C w A l.length l → 0 ≤ dp → dp ≤ 10 →
  Calls Tryd.prog 73 #[.slice A l.length c, .int .i64 dp] w fun e w' => e = .returned (.int .i64 (errs (fun x => checkC n x dp) l)) ∧ Below w.heap.size w w'
set_option maxHeartbeats 1000000 in
set_option maxRecDepth 100000 in
theorem listFault_of (n : Nat) (IH : FtC n) : FtL n := by
  intro A c l dp w hr h0 h10
  have h63 := hr.2.1
  replace hr := Lib.hid hr
  replace IH := Lib.hid IH
  generalize hR : errs (fun x => checkC n x dp) l = R
  replace hR : errs (fun x => checkC n x dp) (l.drop 0) = R := hR
  replace hR := Lib.hid hR
  go_enter Tryd.func73, Tryd.ntmps73
  go_wp2_with fail
  replace hR := hR.out
  go_loopw [5] (fun i wr => ∃ k : Nat, k ≤ l.length ∧ i = .int .i64 k ∧ errs (fun x => checkC n x dp) (l.drop k) = R ∧ Below w.heap.size w wr) (fun i _ => l.length - (intOf i).toNat)
  case atStart => exact ⟨0, Nat.zero_le _, rfl, hR, Below.refl _ _⟩
  case round =>
    clear hR
    obtain ⟨k, hk, rfl, hR, hB⟩ := hrel
    by_cases hlt : k < l.length
    · obtain ⟨ad, cx, e1', hKx, hx0, hxj⟩ := elem_at (Kd.C_below hr.out hB) (kCmd_sz n) k hlt
      subst e1'
      obtain ⟨X1, l1, C1, x2, x3, x4, X5, l5, C5, X6, l6, C6, x7, x8, X9, l9, C9, X10, l10, C10, X11, l11, C11, rfl⟩ := cmdN_K hKx
      have q0 := hx0 _ rfl; have q1 := hxj 1 _ (by decide) rfl; have q2 := hxj 2 _ (by decide) rfl; have q3 := hxj 3 _ (by decide) rfl; have q4 := hxj 4 _ (by decide) rfl; have q5 := hxj 5 _ (by decide) rfl; have q6 := hxj 6 _ (by decide) rfl; have q7 := hxj 7 _ (by decide) rfl; have q8 := hxj 8 _ (by decide) rfl; have q9 := hxj 9 _ (by decide) rfl; have q10 := hxj 10 _ (by decide) rfl; have q11 := hxj 11 _ (by decide) rfl
      clear hx0 hxj
      have hbad := fun h => errs_bad (f := fun x => checkC n x dp) hlt h
      have hgood := fun h => errs_good (f := fun x => checkC n x dp) hlt h
      rw [hR] at hbad hgood
      clear hR
      have HX := Lib.hid (IH.out l[k] _ dp wr hKx h0 h10)
      generalize checkC n l[k] dp = v at *
      generalize kindC n l[k] = x0 at *
      replace hbad := Lib.hid hbad
      replace hgood := Lib.hid hgood
      clear hKx
      have i0 : (0 : Int) ≤ (k : Int) := by omega
      have i1 : (k : Int) < (l.length : Int) := by omega
      by_cases hv : v = 0
      · subst hv
        go_wp2_with fail
        refine HX.out.mono ?_
        rintro e w5 ⟨rfl, hb5⟩
        have hB5 : Below w.heap.size w w5 := hB.trans (hb5.mono hB.size)
        go_wp2_with fail
        go_roundw
        case rel => exact ⟨k + 1, hlt, by go_num, (hgood.out (by trivial)).symm, hB5⟩
        case measure => simp [intOf]; omega
      · have hvb : (v != 0) = true := bne_iff_ne.mpr hv
        have hRv := Lib.hid (hbad.out hv)
        clear hv
        go_wp2_with fail
        refine HX.out.mono ?_
        rintro e w5 ⟨rfl, hb5⟩
        have hB5 : Below w.heap.size w w5 := hB.trans (hb5.mono hB.size)
        go_wp2_with fail
        go_ret
        exact ⟨by rw [hRv.out]; rfl, hB5⟩
    · obtain rfl : k = l.length := by omega
      rw [errs_end] at hR
      subst hR
      have i1 : ¬ (l.length : Int) < (l.length : Int) := by omega
      go_wp2_with fail
      go_ret
      exact ⟨rfl, hB⟩
set_option maxHeartbeats 1000000 in
set_option maxRecDepth 100000 in
theorem els_no (n : Nat) (kd : Int) (A0 : Option Addr) (c0 : Nat) (tx : List ByteArray) (tk mt pt : Int) (A1 : Option Addr) (c1 : Nat) (nm : List ByteArray) (A2 : Option Addr) (c2 : Nat) (ks : List ByteArray) (ov : Bool) (lm : Int) (A3 : Option Addr) (c3 : Nat) (ts : List (TestN n)) (A4 : Option Addr) (c4 : Nat) (th : List (CmdN n)) (A5 : Option Addr) (c5 : Nat) (el : List (CmdN n)) (w : World) (h : ¬ el.length = 1) : Calls Tryd.prog 166 #[.agg #[.int .i64 kd, .slice A0 tx.length c0, .int .i64 tk, .int .i64 mt, .int .i64 pt, .slice A1 nm.length c1, .slice A2 ks.length c2, .bool ov, .int .i64 lm, .slice A3 ts.length c3, .slice A4 th.length c4, .slice A5 el.length c5]] w fun e w' => e = .returned (.bool false) ∧ Below w.heap.size w w' := by
  have hnb : ((el.length : Int) == 1) = false := by rw [beq_eq_false_iff_ne]; omega
  clear h
  have hP : Blk (w.alloc (.cells #[.int .i64 kd, .slice A0 tx.length c0, .int .i64 tk, .int .i64 mt, .int .i64 pt, .slice A1 nm.length c1, .slice A2 ks.length c2, .bool ov, .int .i64 lm, .slice A3 ts.length c3, .slice A4 th.length c4, .slice A5 el.length c5] 109)) w.heap.size [.int .i64 kd, .slice A0 tx.length c0, .int .i64 tk, .int .i64 mt, .int .i64 pt, .slice A1 nm.length c1, .slice A2 ks.length c2, .bool ov, .int .i64 lm, .slice A3 ts.length c3, .slice A4 th.length c4, .slice A5 el.length c5] := Blk.made w _ _
  have hB : Below w.heap.size w (w.alloc (.cells #[.int .i64 kd, .slice A0 tx.length c0, .int .i64 tk, .int .i64 mt, .int .i64 pt, .slice A1 nm.length c1, .slice A2 ks.length c2, .bool ov, .int .i64 lm, .slice A3 ts.length c3, .slice A4 th.length c4, .slice A5 el.length c5] 109)) := (by repeat (first | exact Below.refl _ _ | apply below_alloc | apply pw_below_drewN | apply below_drew1 | (refine Below.setCell ?_ (by first | (simp; done) | (simp; omega) | omega) _) ))
  have p0 := (hP).at 0 _ rfl
  have p1 := (hP).at 1 _ rfl
  have p2 := (hP).at 2 _ rfl
  have p3 := (hP).at 3 _ rfl
  have p4 := (hP).at 4 _ rfl
  have p5 := (hP).at 5 _ rfl
  have p6 := (hP).at 6 _ rfl
  have p7 := (hP).at 7 _ rfl
  have p8 := (hP).at 8 _ rfl
  have p9 := (hP).at 9 _ rfl
  have p10 := (hP).at 10 _ rfl
  have p11 := (hP).at 11 _ rfl
  go_enter Tryd.func166, Tryd.ntmps166
  go_wp2_with fail
  go_ret
  exact ⟨rfl, hB⟩
set_option maxHeartbeats 1000000 in
set_option maxRecDepth 100000 in
theorem els_at (n : Nat) (kd : Int) (A0 : Option Addr) (c0 : Nat) (tx : List ByteArray) (tk mt pt : Int) (A1 : Option Addr) (c1 : Nat) (nm : List ByteArray) (A2 : Option Addr) (c2 : Nat) (ks : List ByteArray) (ov : Bool) (lm : Int) (A3 : Option Addr) (c3 : Nat) (ts : List (TestN n)) (A4 : Option Addr) (c4 : Nat) (th : List (CmdN n)) (A5 : Option Addr) (c5 : Nat) (el : List (CmdN n)) (w : World) (hr : (kCmd n).C w A5 el.length el) (hn : el.length = 1) (b : Bool) (hb : (kindC n (el[0]'(by omega)) == 2) = b) : Calls Tryd.prog 166 #[.agg #[.int .i64 kd, .slice A0 tx.length c0, .int .i64 tk, .int .i64 mt, .int .i64 pt, .slice A1 nm.length c1, .slice A2 ks.length c2, .bool ov, .int .i64 lm, .slice A3 ts.length c3, .slice A4 th.length c4, .slice A5 el.length c5]] w fun e w' => e = .returned (.bool b) ∧ Below w.heap.size w w' := by
  have hnb : ((el.length : Int) == 1) = true := by rw [beq_iff_eq]; omega
  have hnl : (0 : Int) < (el.length : Int) := by omega
  obtain ⟨ad, cx, e1', hKx, hx0, hxj⟩ := elem_at hr (kCmd_sz n) 0 (by omega)
  obtain ⟨X1, l1, C1, x2, x3, x4, X5, l5, C5, X6, l6, C6, x7, x8, X9, l9, C9, X10, l10, C10, X11, l11, C11, rfl⟩ := cmdN_K hKx
  have ez : ad.add (0 * 12) = ad := by simp [Addr.add]
  simp only [ez] at hx0 hxj
  have q0' := hx0 _ rfl
  clear hx0 hxj ez hKx hr
  generalize kindC n (el[0]'(by omega)) = x0 at *
  clear hn
  have hP : Blk (w.alloc (.cells #[.int .i64 kd, .slice A0 tx.length c0, .int .i64 tk, .int .i64 mt, .int .i64 pt, .slice A1 nm.length c1, .slice A2 ks.length c2, .bool ov, .int .i64 lm, .slice A3 ts.length c3, .slice A4 th.length c4, .slice A5 el.length c5] 109)) w.heap.size [.int .i64 kd, .slice A0 tx.length c0, .int .i64 tk, .int .i64 mt, .int .i64 pt, .slice A1 nm.length c1, .slice A2 ks.length c2, .bool ov, .int .i64 lm, .slice A3 ts.length c3, .slice A4 th.length c4, .slice A5 el.length c5] := Blk.made w _ _
  have hB : Below w.heap.size w (w.alloc (.cells #[.int .i64 kd, .slice A0 tx.length c0, .int .i64 tk, .int .i64 mt, .int .i64 pt, .slice A1 nm.length c1, .slice A2 ks.length c2, .bool ov, .int .i64 lm, .slice A3 ts.length c3, .slice A4 th.length c4, .slice A5 el.length c5] 109)) := (by repeat (first | exact Below.refl _ _ | apply below_alloc | apply pw_below_drewN | apply below_drew1 | (refine Below.setCell ?_ (by first | (simp; done) | (simp; omega) | omega) _) ))
  have p0 := (hP).at 0 _ rfl
  have p1 := (hP).at 1 _ rfl
  have p2 := (hP).at 2 _ rfl
  have p3 := (hP).at 3 _ rfl
  have p4 := (hP).at 4 _ rfl
  have p5 := (hP).at 5 _ rfl
  have p6 := (hP).at 6 _ rfl
  have p7 := (hP).at 7 _ rfl
  have p8 := (hP).at 8 _ rfl
  have p9 := (hP).at 9 _ rfl
  have p10 := (hP).at 10 _ rfl
  have p11 := (hP).at 11 _ rfl
  have q0 := pw_cell_below hB q0'
  clear q0'
  subst e1'
  cases b
  all_goals
    go_enter Tryd.func166, Tryd.ntmps166
    go_wp2_with fail
    go_ret
    exact ⟨rfl, hB⟩
set_option maxHeartbeats 1000000 in
set_option maxRecDepth 100000 in
theorem fc_kind (n : Nat) (kd : Int) (A0 : Option Addr) (c0 : Nat) (tx : List ByteArray) (tk mt pt : Int) (A1 : Option Addr) (c1 : Nat) (nm : List ByteArray) (A2 : Option Addr) (c2 : Nat) (ks : List ByteArray) (ov : Bool) (lm : Int) (A3 : Option Addr) (c3 : Nat) (ts : List (TestN n)) (A4 : Option Addr) (c4 : Nat) (th : List (CmdN n)) (A5 : Option Addr) (c5 : Nat) (el : List (CmdN n)) (dp : Int) (w : World) (h : kd < 1 ∨ 10 < kd) : Calls Tryd.prog 115 #[.agg #[.int .i64 kd, .slice A0 tx.length c0, .int .i64 tk, .int .i64 mt, .int .i64 pt, .slice A1 nm.length c1, .slice A2 ks.length c2, .bool ov, .int .i64 lm, .slice A3 ts.length c3, .slice A4 th.length c4, .slice A5 el.length c5], .int .i64 dp] w (fun e w' => e = .returned (.int .i64 2) ∧ Below w.heap.size w w') := by
  have HI1 := Lib.hid (fun w => in_no kd 1 10 w (by omega))
  have HI2 := HI1
  clear h
  have hP : Blk (w.alloc (.cells #[.int .i64 kd, .slice A0 tx.length c0, .int .i64 tk, .int .i64 mt, .int .i64 pt, .slice A1 nm.length c1, .slice A2 ks.length c2, .bool ov, .int .i64 lm, .slice A3 ts.length c3, .slice A4 th.length c4, .slice A5 el.length c5] 109)) w.heap.size [.int .i64 kd, .slice A0 tx.length c0, .int .i64 tk, .int .i64 mt, .int .i64 pt, .slice A1 nm.length c1, .slice A2 ks.length c2, .bool ov, .int .i64 lm, .slice A3 ts.length c3, .slice A4 th.length c4, .slice A5 el.length c5] := Blk.made w _ _
  have hB : Below w.heap.size w (w.alloc (.cells #[.int .i64 kd, .slice A0 tx.length c0, .int .i64 tk, .int .i64 mt, .int .i64 pt, .slice A1 nm.length c1, .slice A2 ks.length c2, .bool ov, .int .i64 lm, .slice A3 ts.length c3, .slice A4 th.length c4, .slice A5 el.length c5] 109)) := (by repeat (first | exact Below.refl _ _ | apply below_alloc | apply pw_below_drewN | apply below_drew1 | (refine Below.setCell ?_ (by first | (simp; done) | (simp; omega) | omega) _) ))
  have p0 := (hP).at 0 _ rfl
  have p1 := (hP).at 1 _ rfl
  have p2 := (hP).at 2 _ rfl
  have p3 := (hP).at 3 _ rfl
  have p4 := (hP).at 4 _ rfl
  have p5 := (hP).at 5 _ rfl
  have p6 := (hP).at 6 _ rfl
  have p7 := (hP).at 7 _ rfl
  have p8 := (hP).at 8 _ rfl
  have p9 := (hP).at 9 _ rfl
  have p10 := (hP).at 10 _ rfl
  have p11 := (hP).at 11 _ rfl
  go_enter Tryd.func115, Tryd.ntmps115
  go_wp2_with (go_at_call 52; (first | with_reducible refine (HI1.out _).mono ?_ | with_reducible refine (HI2.out _).mono ?_); rintro e w9 ⟨rfl, rfl⟩)
  go_ret
  exact ⟨rfl, hB⟩
set_option maxHeartbeats 1000000 in
set_option maxRecDepth 100000 in
theorem fc_deep (n : Nat) (kd : Int) (A0 : Option Addr) (c0 : Nat) (tx : List ByteArray) (tk mt pt : Int) (A1 : Option Addr) (c1 : Nat) (nm : List ByteArray) (A2 : Option Addr) (c2 : Nat) (ks : List ByteArray) (ov : Bool) (lm : Int) (A3 : Option Addr) (c3 : Nat) (ts : List (TestN n)) (A4 : Option Addr) (c4 : Nat) (th : List (CmdN n)) (A5 : Option Addr) (c5 : Nat) (el : List (CmdN n)) (dp : Int) (w : World) (h1 : ¬ kd < 1) (h2 : ¬ 10 < kd) (hd : 6 < dp) : Calls Tryd.prog 115 #[.agg #[.int .i64 kd, .slice A0 tx.length c0, .int .i64 tk, .int .i64 mt, .int .i64 pt, .slice A1 nm.length c1, .slice A2 ks.length c2, .bool ov, .int .i64 lm, .slice A3 ts.length c3, .slice A4 th.length c4, .slice A5 el.length c5], .int .i64 dp] w (fun e w' => e = .returned (.int .i64 1) ∧ Below w.heap.size w w') := by
  have HI1 := Lib.hid (fun w => in_yes kd 1 10 w (by omega) (by omega))
  have HI2 := HI1
  clear h1 h2
  have hP : Blk (w.alloc (.cells #[.int .i64 kd, .slice A0 tx.length c0, .int .i64 tk, .int .i64 mt, .int .i64 pt, .slice A1 nm.length c1, .slice A2 ks.length c2, .bool ov, .int .i64 lm, .slice A3 ts.length c3, .slice A4 th.length c4, .slice A5 el.length c5] 109)) w.heap.size [.int .i64 kd, .slice A0 tx.length c0, .int .i64 tk, .int .i64 mt, .int .i64 pt, .slice A1 nm.length c1, .slice A2 ks.length c2, .bool ov, .int .i64 lm, .slice A3 ts.length c3, .slice A4 th.length c4, .slice A5 el.length c5] := Blk.made w _ _
  have hB : Below w.heap.size w (w.alloc (.cells #[.int .i64 kd, .slice A0 tx.length c0, .int .i64 tk, .int .i64 mt, .int .i64 pt, .slice A1 nm.length c1, .slice A2 ks.length c2, .bool ov, .int .i64 lm, .slice A3 ts.length c3, .slice A4 th.length c4, .slice A5 el.length c5] 109)) := (by repeat (first | exact Below.refl _ _ | apply below_alloc | apply pw_below_drewN | apply below_drew1 | (refine Below.setCell ?_ (by first | (simp; done) | (simp; omega) | omega) _) ))
  have p0 := (hP).at 0 _ rfl
  have p1 := (hP).at 1 _ rfl
  have p2 := (hP).at 2 _ rfl
  have p3 := (hP).at 3 _ rfl
  have p4 := (hP).at 4 _ rfl
  have p5 := (hP).at 5 _ rfl
  have p6 := (hP).at 6 _ rfl
  have p7 := (hP).at 7 _ rfl
  have p8 := (hP).at 8 _ rfl
  have p9 := (hP).at 9 _ rfl
  have p10 := (hP).at 10 _ rfl
  have p11 := (hP).at 11 _ rfl
  go_enter Tryd.func115, Tryd.ntmps115
  go_wp2_with (go_at_call 52; (first | with_reducible refine (HI1.out _).mono ?_ | with_reducible refine (HI2.out _).mono ?_); rintro e w9 ⟨rfl, rfl⟩)
  go_ret
  exact ⟨rfl, hB⟩
set_option maxHeartbeats 1000000 in
set_option maxRecDepth 100000 in
theorem fc_texts (n : Nat) (kd : Int) (A0 : Option Addr) (c0 : Nat) (tx : List ByteArray) (tk mt pt : Int) (A1 : Option Addr) (c1 : Nat) (nm : List ByteArray) (A2 : Option Addr) (c2 : Nat) (ks : List ByteArray) (ov : Bool) (lm : Int) (A3 : Option Addr) (c3 : Nat) (ts : List (TestN n)) (A4 : Option Addr) (c4 : Nat) (th : List (CmdN n)) (A5 : Option Addr) (c5 : Nat) (el : List (CmdN n)) (dp : Int) (w : World) (h2 : kd = 2) (hd : ¬ 6 < dp) (ht : 0 < tx.length) : Calls Tryd.prog 115 #[.agg #[.int .i64 kd, .slice A0 tx.length c0, .int .i64 tk, .int .i64 mt, .int .i64 pt, .slice A1 nm.length c1, .slice A2 ks.length c2, .bool ov, .int .i64 lm, .slice A3 ts.length c3, .slice A4 th.length c4, .slice A5 el.length c5], .int .i64 dp] w (fun e w' => e = .returned (.int .i64 3) ∧ Below w.heap.size w w') := by
  have HI1 := Lib.hid (fun w => in_yes kd 1 10 w (by omega) (by omega))
  have HI2 := HI1
  have e3 : (kd != 2) = false := by rw [bne_eq_false_iff_eq]; exact h2
  have e4 : (0 : Int) < (tx.length : Int) := by omega
  clear h2
  have hP : Blk (w.alloc (.cells #[.int .i64 kd, .slice A0 tx.length c0, .int .i64 tk, .int .i64 mt, .int .i64 pt, .slice A1 nm.length c1, .slice A2 ks.length c2, .bool ov, .int .i64 lm, .slice A3 ts.length c3, .slice A4 th.length c4, .slice A5 el.length c5] 109)) w.heap.size [.int .i64 kd, .slice A0 tx.length c0, .int .i64 tk, .int .i64 mt, .int .i64 pt, .slice A1 nm.length c1, .slice A2 ks.length c2, .bool ov, .int .i64 lm, .slice A3 ts.length c3, .slice A4 th.length c4, .slice A5 el.length c5] := Blk.made w _ _
  have hB : Below w.heap.size w (w.alloc (.cells #[.int .i64 kd, .slice A0 tx.length c0, .int .i64 tk, .int .i64 mt, .int .i64 pt, .slice A1 nm.length c1, .slice A2 ks.length c2, .bool ov, .int .i64 lm, .slice A3 ts.length c3, .slice A4 th.length c4, .slice A5 el.length c5] 109)) := (by repeat (first | exact Below.refl _ _ | apply below_alloc | apply pw_below_drewN | apply below_drew1 | (refine Below.setCell ?_ (by first | (simp; done) | (simp; omega) | omega) _) ))
  have p0 := (hP).at 0 _ rfl
  have p1 := (hP).at 1 _ rfl
  have p2 := (hP).at 2 _ rfl
  have p3 := (hP).at 3 _ rfl
  have p4 := (hP).at 4 _ rfl
  have p5 := (hP).at 5 _ rfl
  have p6 := (hP).at 6 _ rfl
  have p7 := (hP).at 7 _ rfl
  have p8 := (hP).at 8 _ rfl
  have p9 := (hP).at 9 _ rfl
  have p10 := (hP).at 10 _ rfl
  have p11 := (hP).at 11 _ rfl
  go_enter Tryd.func115, Tryd.ntmps115
  go_wp2_with (go_at_call 52; (first | with_reducible refine (HI1.out _).mono ?_ | with_reducible refine (HI2.out _).mono ?_); rintro e w9 ⟨rfl, rfl⟩)
  go_ret
  exact ⟨rfl, hB⟩
set_option maxHeartbeats 1000000 in
set_option maxRecDepth 100000 in
theorem fc_t (n : Nat) (kd : Int) (A0 : Option Addr) (c0 : Nat) (tx : List ByteArray) (tk mt pt : Int) (A1 : Option Addr) (c1 : Nat) (nm : List ByteArray) (A2 : Option Addr) (c2 : Nat) (ks : List ByteArray) (ov : Bool) (lm : Int) (A3 : Option Addr) (c3 : Nat) (ts : List (TestN n)) (A4 : Option Addr) (c4 : Nat) (th : List (CmdN n)) (A5 : Option Addr) (c5 : Nat) (el : List (CmdN n)) (dp : Int) (w : World) (vt : Int) (h2 : kd = 2) (h0 : 0 ≤ dp) (hd : ¬ 6 < dp) (ht : tx.length = 0) (hv : ¬ vt = 0) (HT : ∀ w', Below w.heap.size w w' → Calls Tryd.prog 165 #[.agg #[.int .i64 tk, .int .i64 mt, .int .i64 pt, .slice A1 nm.length c1, .slice A2 ks.length c2, .bool ov, .int .i64 lm, .slice A3 ts.length c3], .int .i64 1] w' fun e w2 => e = .returned (.int .i64 vt) ∧ Below w'.heap.size w' w2) : Calls Tryd.prog 115 #[.agg #[.int .i64 kd, .slice A0 tx.length c0, .int .i64 tk, .int .i64 mt, .int .i64 pt, .slice A1 nm.length c1, .slice A2 ks.length c2, .bool ov, .int .i64 lm, .slice A3 ts.length c3, .slice A4 th.length c4, .slice A5 el.length c5], .int .i64 dp] w (fun e w' => e = .returned (.int .i64 vt) ∧ Below w.heap.size w w') := by
  replace HT := Lib.hid HT
  have hvb : (vt == 0) = false := by rw [beq_eq_false_iff_ne]; exact hv
  clear hv
  have HI1 := Lib.hid (fun w => in_yes kd 1 10 w (by omega) (by omega))
  have HI2 := HI1
  have e3 : (kd != 2) = false := by rw [bne_eq_false_iff_eq]; exact h2
  have e4 : ¬ (0 : Int) < (tx.length : Int) := by omega
  have e5 : ¬ 0 < tx.length := by omega
  clear h2 ht
  have hP : Blk (w.alloc (.cells #[.int .i64 kd, .slice A0 tx.length c0, .int .i64 tk, .int .i64 mt, .int .i64 pt, .slice A1 nm.length c1, .slice A2 ks.length c2, .bool ov, .int .i64 lm, .slice A3 ts.length c3, .slice A4 th.length c4, .slice A5 el.length c5] 109)) w.heap.size [.int .i64 kd, .slice A0 tx.length c0, .int .i64 tk, .int .i64 mt, .int .i64 pt, .slice A1 nm.length c1, .slice A2 ks.length c2, .bool ov, .int .i64 lm, .slice A3 ts.length c3, .slice A4 th.length c4, .slice A5 el.length c5] := Blk.made w _ _
  have hB : Below w.heap.size w (w.alloc (.cells #[.int .i64 kd, .slice A0 tx.length c0, .int .i64 tk, .int .i64 mt, .int .i64 pt, .slice A1 nm.length c1, .slice A2 ks.length c2, .bool ov, .int .i64 lm, .slice A3 ts.length c3, .slice A4 th.length c4, .slice A5 el.length c5] 109)) := (by repeat (first | exact Below.refl _ _ | apply below_alloc | apply pw_below_drewN | apply below_drew1 | (refine Below.setCell ?_ (by first | (simp; done) | (simp; omega) | omega) _) ))
  have p0 := (hP).at 0 _ rfl
  have p1 := (hP).at 1 _ rfl
  have p2 := (hP).at 2 _ rfl
  have p3 := (hP).at 3 _ rfl
  have p4 := (hP).at 4 _ rfl
  have p5 := (hP).at 5 _ rfl
  have p6 := (hP).at 6 _ rfl
  have p7 := (hP).at 7 _ rfl
  have p8 := (hP).at 8 _ rfl
  have p9 := (hP).at 9 _ rfl
  have p10 := (hP).at 10 _ rfl
  have p11 := (hP).at 11 _ rfl
  go_enter Tryd.func115, Tryd.ntmps115
  go_wp2_with (go_at_call 52; (first | with_reducible refine (HI1.out _).mono ?_ | with_reducible refine (HI2.out _).mono ?_); rintro e w9 ⟨rfl, rfl⟩)
  refine (HT.out _ hB).mono ?_
  rintro e w1 ⟨rfl, hb1⟩
  have hP1 := hP.below hb1 hP.lt
  have hB1 := hB.trans (hb1.mono hB.size)
  clear hP hB p0 p1 p2 p3 p4 p5 p6 p7 p8 p9 p10 p11 hb1
  have p0 := (hP1).at 0 _ rfl
  have p1 := (hP1).at 1 _ rfl
  have p2 := (hP1).at 2 _ rfl
  have p3 := (hP1).at 3 _ rfl
  have p4 := (hP1).at 4 _ rfl
  have p5 := (hP1).at 5 _ rfl
  have p6 := (hP1).at 6 _ rfl
  have p7 := (hP1).at 7 _ rfl
  have p8 := (hP1).at 8 _ rfl
  have p9 := (hP1).at 9 _ rfl
  have p10 := (hP1).at 10 _ rfl
  have p11 := (hP1).at 11 _ rfl
  go_wp2_with fail
  go_ret
  exact ⟨rfl, hB1⟩
set_option maxHeartbeats 1000000 in
set_option maxRecDepth 100000 in
theorem fc_h (n : Nat) (kd : Int) (A0 : Option Addr) (c0 : Nat) (tx : List ByteArray) (tk mt pt : Int) (A1 : Option Addr) (c1 : Nat) (nm : List ByteArray) (A2 : Option Addr) (c2 : Nat) (ks : List ByteArray) (ov : Bool) (lm : Int) (A3 : Option Addr) (c3 : Nat) (ts : List (TestN n)) (A4 : Option Addr) (c4 : Nat) (th : List (CmdN n)) (A5 : Option Addr) (c5 : Nat) (el : List (CmdN n)) (dp : Int) (w : World) (vh : Int) (h2 : kd = 2) (h0 : 0 ≤ dp) (hd : ¬ 6 < dp) (ht : tx.length = 0) (hv : ¬ vh = 0) (vt : Int) (hvt : vt = 0) (HT : ∀ w', Below w.heap.size w w' → Calls Tryd.prog 165 #[.agg #[.int .i64 tk, .int .i64 mt, .int .i64 pt, .slice A1 nm.length c1, .slice A2 ks.length c2, .bool ov, .int .i64 lm, .slice A3 ts.length c3], .int .i64 1] w' fun e w2 => e = .returned (.int .i64 vt) ∧ Below w'.heap.size w' w2) (HH : ∀ w', Below w.heap.size w w' → Calls Tryd.prog 73 #[.slice A4 th.length c4, .int .i64 (dp + 1)] w' fun e w2 => e = .returned (.int .i64 vh) ∧ Below w'.heap.size w' w2) : Calls Tryd.prog 115 #[.agg #[.int .i64 kd, .slice A0 tx.length c0, .int .i64 tk, .int .i64 mt, .int .i64 pt, .slice A1 nm.length c1, .slice A2 ks.length c2, .bool ov, .int .i64 lm, .slice A3 ts.length c3, .slice A4 th.length c4, .slice A5 el.length c5], .int .i64 dp] w (fun e w' => e = .returned (.int .i64 vh) ∧ Below w.heap.size w w') := by
  replace HT := Lib.hid HT
  replace HH := Lib.hid HH
  have hvb : (vh == 0) = false := by rw [beq_eq_false_iff_ne]; exact hv
  clear hv
  subst hvt
  skip
  have HI1 := Lib.hid (fun w => in_yes kd 1 10 w (by omega) (by omega))
  have HI2 := HI1
  have e3 : (kd != 2) = false := by rw [bne_eq_false_iff_eq]; exact h2
  have e4 : ¬ (0 : Int) < (tx.length : Int) := by omega
  have e5 : ¬ 0 < tx.length := by omega
  clear h2 ht
  have hP : Blk (w.alloc (.cells #[.int .i64 kd, .slice A0 tx.length c0, .int .i64 tk, .int .i64 mt, .int .i64 pt, .slice A1 nm.length c1, .slice A2 ks.length c2, .bool ov, .int .i64 lm, .slice A3 ts.length c3, .slice A4 th.length c4, .slice A5 el.length c5] 109)) w.heap.size [.int .i64 kd, .slice A0 tx.length c0, .int .i64 tk, .int .i64 mt, .int .i64 pt, .slice A1 nm.length c1, .slice A2 ks.length c2, .bool ov, .int .i64 lm, .slice A3 ts.length c3, .slice A4 th.length c4, .slice A5 el.length c5] := Blk.made w _ _
  have hB : Below w.heap.size w (w.alloc (.cells #[.int .i64 kd, .slice A0 tx.length c0, .int .i64 tk, .int .i64 mt, .int .i64 pt, .slice A1 nm.length c1, .slice A2 ks.length c2, .bool ov, .int .i64 lm, .slice A3 ts.length c3, .slice A4 th.length c4, .slice A5 el.length c5] 109)) := (by repeat (first | exact Below.refl _ _ | apply below_alloc | apply pw_below_drewN | apply below_drew1 | (refine Below.setCell ?_ (by first | (simp; done) | (simp; omega) | omega) _) ))
  have p0 := (hP).at 0 _ rfl
  have p1 := (hP).at 1 _ rfl
  have p2 := (hP).at 2 _ rfl
  have p3 := (hP).at 3 _ rfl
  have p4 := (hP).at 4 _ rfl
  have p5 := (hP).at 5 _ rfl
  have p6 := (hP).at 6 _ rfl
  have p7 := (hP).at 7 _ rfl
  have p8 := (hP).at 8 _ rfl
  have p9 := (hP).at 9 _ rfl
  have p10 := (hP).at 10 _ rfl
  have p11 := (hP).at 11 _ rfl
  go_enter Tryd.func115, Tryd.ntmps115
  go_wp2_with (go_at_call 52; (first | with_reducible refine (HI1.out _).mono ?_ | with_reducible refine (HI2.out _).mono ?_); rintro e w9 ⟨rfl, rfl⟩)
  refine (HT.out _ hB).mono ?_
  rintro e w1 ⟨rfl, hb1⟩
  have hP1 := hP.below hb1 hP.lt
  have hB1 := hB.trans (hb1.mono hB.size)
  clear hP hB p0 p1 p2 p3 p4 p5 p6 p7 p8 p9 p10 p11 hb1
  have p0 := (hP1).at 0 _ rfl
  have p1 := (hP1).at 1 _ rfl
  have p2 := (hP1).at 2 _ rfl
  have p3 := (hP1).at 3 _ rfl
  have p4 := (hP1).at 4 _ rfl
  have p5 := (hP1).at 5 _ rfl
  have p6 := (hP1).at 6 _ rfl
  have p7 := (hP1).at 7 _ rfl
  have p8 := (hP1).at 8 _ rfl
  have p9 := (hP1).at 9 _ rfl
  have p10 := (hP1).at 10 _ rfl
  have p11 := (hP1).at 11 _ rfl
  go_wp2_with fail
  refine (HH.out _ hB1).mono ?_
  rintro e w2 ⟨rfl, hb2⟩
  have hP2 := hP1.below hb2 hP1.lt
  have hB2 := hB1.trans (hb2.mono hB1.size)
  clear hP1 hB1 p0 p1 p2 p3 p4 p5 p6 p7 p8 p9 p10 p11 hb2
  have p0 := (hP2).at 0 _ rfl
  have p1 := (hP2).at 1 _ rfl
  have p2 := (hP2).at 2 _ rfl
  have p3 := (hP2).at 3 _ rfl
  have p4 := (hP2).at 4 _ rfl
  have p5 := (hP2).at 5 _ rfl
  have p6 := (hP2).at 6 _ rfl
  have p7 := (hP2).at 7 _ rfl
  have p8 := (hP2).at 8 _ rfl
  have p9 := (hP2).at 9 _ rfl
  have p10 := (hP2).at 10 _ rfl
  have p11 := (hP2).at 11 _ rfl
  go_wp2_with fail
  go_ret
  exact ⟨rfl, hB2⟩
set_option maxHeartbeats 1000000 in
set_option maxRecDepth 100000 in
theorem fc_e (n : Nat) (kd : Int) (A0 : Option Addr) (c0 : Nat) (tx : List ByteArray) (tk mt pt : Int) (A1 : Option Addr) (c1 : Nat) (nm : List ByteArray) (A2 : Option Addr) (c2 : Nat) (ks : List ByteArray) (ov : Bool) (lm : Int) (A3 : Option Addr) (c3 : Nat) (ts : List (TestN n)) (A4 : Option Addr) (c4 : Nat) (th : List (CmdN n)) (A5 : Option Addr) (c5 : Nat) (el : List (CmdN n)) (dp : Int) (w : World) (ve : Int) (h2 : kd = 2) (h0 : 0 ≤ dp) (hd : ¬ 6 < dp) (ht : tx.length = 0) (bs : Bool) (hbs : bs = false) (vt vh : Int) (hvt : vt = 0) (hvh : vh = 0) (HT : ∀ w', Below w.heap.size w w' → Calls Tryd.prog 165 #[.agg #[.int .i64 tk, .int .i64 mt, .int .i64 pt, .slice A1 nm.length c1, .slice A2 ks.length c2, .bool ov, .int .i64 lm, .slice A3 ts.length c3], .int .i64 1] w' fun e w2 => e = .returned (.int .i64 vt) ∧ Below w'.heap.size w' w2) (HH : ∀ w', Below w.heap.size w w' → Calls Tryd.prog 73 #[.slice A4 th.length c4, .int .i64 (dp + 1)] w' fun e w2 => e = .returned (.int .i64 vh) ∧ Below w'.heap.size w' w2) (HE : ∀ w', Below w.heap.size w w' → Calls Tryd.prog 73 #[.slice A5 el.length c5, .int .i64 (dp + 1)] w' fun e w2 => e = .returned (.int .i64 ve) ∧ Below w'.heap.size w' w2) (HS : ∀ w', Below w.heap.size w w' → Calls Tryd.prog 166 #[.agg #[.int .i64 kd, .slice A0 tx.length c0, .int .i64 tk, .int .i64 mt, .int .i64 pt, .slice A1 nm.length c1, .slice A2 ks.length c2, .bool ov, .int .i64 lm, .slice A3 ts.length c3, .slice A4 th.length c4, .slice A5 el.length c5]] w' fun e w2 => e = .returned (.bool bs) ∧ Below w'.heap.size w' w2) : Calls Tryd.prog 115 #[.agg #[.int .i64 kd, .slice A0 tx.length c0, .int .i64 tk, .int .i64 mt, .int .i64 pt, .slice A1 nm.length c1, .slice A2 ks.length c2, .bool ov, .int .i64 lm, .slice A3 ts.length c3, .slice A4 th.length c4, .slice A5 el.length c5], .int .i64 dp] w (fun e w' => e = .returned (.int .i64 ve) ∧ Below w.heap.size w w') := by
  replace HT := Lib.hid HT
  replace HH := Lib.hid HH
  replace HE := Lib.hid HE
  replace HS := Lib.hid HS
  subst hvt hvh hbs
  skip
  skip
  have HI1 := Lib.hid (fun w => in_yes kd 1 10 w (by omega) (by omega))
  have HI2 := HI1
  have e3 : (kd != 2) = false := by rw [bne_eq_false_iff_eq]; exact h2
  have e4 : ¬ (0 : Int) < (tx.length : Int) := by omega
  have e5 : ¬ 0 < tx.length := by omega
  clear h2 ht
  have hP : Blk (w.alloc (.cells #[.int .i64 kd, .slice A0 tx.length c0, .int .i64 tk, .int .i64 mt, .int .i64 pt, .slice A1 nm.length c1, .slice A2 ks.length c2, .bool ov, .int .i64 lm, .slice A3 ts.length c3, .slice A4 th.length c4, .slice A5 el.length c5] 109)) w.heap.size [.int .i64 kd, .slice A0 tx.length c0, .int .i64 tk, .int .i64 mt, .int .i64 pt, .slice A1 nm.length c1, .slice A2 ks.length c2, .bool ov, .int .i64 lm, .slice A3 ts.length c3, .slice A4 th.length c4, .slice A5 el.length c5] := Blk.made w _ _
  have hB : Below w.heap.size w (w.alloc (.cells #[.int .i64 kd, .slice A0 tx.length c0, .int .i64 tk, .int .i64 mt, .int .i64 pt, .slice A1 nm.length c1, .slice A2 ks.length c2, .bool ov, .int .i64 lm, .slice A3 ts.length c3, .slice A4 th.length c4, .slice A5 el.length c5] 109)) := (by repeat (first | exact Below.refl _ _ | apply below_alloc | apply pw_below_drewN | apply below_drew1 | (refine Below.setCell ?_ (by first | (simp; done) | (simp; omega) | omega) _) ))
  have p0 := (hP).at 0 _ rfl
  have p1 := (hP).at 1 _ rfl
  have p2 := (hP).at 2 _ rfl
  have p3 := (hP).at 3 _ rfl
  have p4 := (hP).at 4 _ rfl
  have p5 := (hP).at 5 _ rfl
  have p6 := (hP).at 6 _ rfl
  have p7 := (hP).at 7 _ rfl
  have p8 := (hP).at 8 _ rfl
  have p9 := (hP).at 9 _ rfl
  have p10 := (hP).at 10 _ rfl
  have p11 := (hP).at 11 _ rfl
  go_enter Tryd.func115, Tryd.ntmps115
  go_wp2_with (go_at_call 52; (first | with_reducible refine (HI1.out _).mono ?_ | with_reducible refine (HI2.out _).mono ?_); rintro e w9 ⟨rfl, rfl⟩)
  refine (HT.out _ hB).mono ?_
  rintro e w1 ⟨rfl, hb1⟩
  have hP1 := hP.below hb1 hP.lt
  have hB1 := hB.trans (hb1.mono hB.size)
  clear hP hB p0 p1 p2 p3 p4 p5 p6 p7 p8 p9 p10 p11 hb1
  have p0 := (hP1).at 0 _ rfl
  have p1 := (hP1).at 1 _ rfl
  have p2 := (hP1).at 2 _ rfl
  have p3 := (hP1).at 3 _ rfl
  have p4 := (hP1).at 4 _ rfl
  have p5 := (hP1).at 5 _ rfl
  have p6 := (hP1).at 6 _ rfl
  have p7 := (hP1).at 7 _ rfl
  have p8 := (hP1).at 8 _ rfl
  have p9 := (hP1).at 9 _ rfl
  have p10 := (hP1).at 10 _ rfl
  have p11 := (hP1).at 11 _ rfl
  go_wp2_with fail
  refine (HH.out _ hB1).mono ?_
  rintro e w2 ⟨rfl, hb2⟩
  have hP2 := hP1.below hb2 hP1.lt
  have hB2 := hB1.trans (hb2.mono hB1.size)
  clear hP1 hB1 p0 p1 p2 p3 p4 p5 p6 p7 p8 p9 p10 p11 hb2
  have p0 := (hP2).at 0 _ rfl
  have p1 := (hP2).at 1 _ rfl
  have p2 := (hP2).at 2 _ rfl
  have p3 := (hP2).at 3 _ rfl
  have p4 := (hP2).at 4 _ rfl
  have p5 := (hP2).at 5 _ rfl
  have p6 := (hP2).at 6 _ rfl
  have p7 := (hP2).at 7 _ rfl
  have p8 := (hP2).at 8 _ rfl
  have p9 := (hP2).at 9 _ rfl
  have p10 := (hP2).at 10 _ rfl
  have p11 := (hP2).at 11 _ rfl
  go_wp2_with fail
  refine (HS.out _ hB2).mono ?_
  rintro e w3 ⟨rfl, hb3⟩
  have hP3 := hP2.below hb3 hP2.lt
  have hB3 := hB2.trans (hb3.mono hB2.size)
  clear hP2 hB2 p0 p1 p2 p3 p4 p5 p6 p7 p8 p9 p10 p11 hb3
  have p0 := (hP3).at 0 _ rfl
  have p1 := (hP3).at 1 _ rfl
  have p2 := (hP3).at 2 _ rfl
  have p3 := (hP3).at 3 _ rfl
  have p4 := (hP3).at 4 _ rfl
  have p5 := (hP3).at 5 _ rfl
  have p6 := (hP3).at 6 _ rfl
  have p7 := (hP3).at 7 _ rfl
  have p8 := (hP3).at 8 _ rfl
  have p9 := (hP3).at 9 _ rfl
  have p10 := (hP3).at 10 _ rfl
  have p11 := (hP3).at 11 _ rfl
  go_wp2_with fail
  refine (HE.out _ hB3).mono ?_
  rintro e w4 ⟨rfl, hb4⟩
  have hB4 := hB3.trans (hb4.mono hB3.size)
  go_wp2_with fail
  all_goals (go_ret; exact ⟨rfl, hB4⟩)
set_option maxHeartbeats 1000000 in
set_option maxRecDepth 100000 in
theorem fc_c (n : Nat) (kd : Int) (A0 : Option Addr) (c0 : Nat) (tx : List ByteArray) (tk mt pt : Int) (A1 : Option Addr) (c1 : Nat) (nm : List ByteArray) (A2 : Option Addr) (c2 : Nat) (ks : List ByteArray) (ov : Bool) (lm : Int) (A3 : Option Addr) (c3 : Nat) (ts : List (TestN n)) (A4 : Option Addr) (c4 : Nat) (th : List (CmdN n)) (A5 : Option Addr) (c5 : Nat) (el : List (CmdN n)) (dp : Int) (w : World) (vc : Int) (hr : (kCmd n).C w A5 el.length el) (h2 : kd = 2) (h0 : 0 ≤ dp) (hd : ¬ 6 < dp) (ht : tx.length = 0) (hn : el.length = 1) (bs : Bool) (hbs : bs = true) (vt vh : Int) (hvt : vt = 0) (hvh : vh = 0) (HT : ∀ w', Below w.heap.size w w' → Calls Tryd.prog 165 #[.agg #[.int .i64 tk, .int .i64 mt, .int .i64 pt, .slice A1 nm.length c1, .slice A2 ks.length c2, .bool ov, .int .i64 lm, .slice A3 ts.length c3], .int .i64 1] w' fun e w2 => e = .returned (.int .i64 vt) ∧ Below w'.heap.size w' w2) (HH : ∀ w', Below w.heap.size w w' → Calls Tryd.prog 73 #[.slice A4 th.length c4, .int .i64 (dp + 1)] w' fun e w2 => e = .returned (.int .i64 vh) ∧ Below w'.heap.size w' w2) (HS : ∀ w', Below w.heap.size w w' → Calls Tryd.prog 166 #[.agg #[.int .i64 kd, .slice A0 tx.length c0, .int .i64 tk, .int .i64 mt, .int .i64 pt, .slice A1 nm.length c1, .slice A2 ks.length c2, .bool ov, .int .i64 lm, .slice A3 ts.length c3, .slice A4 th.length c4, .slice A5 el.length c5]] w' fun e w2 => e = .returned (.bool bs) ∧ Below w'.heap.size w' w2)
    (HC : ∀ cs w', (kCmd n).K w (el[0]'(by omega)) cs → Below w.heap.size w w' → Calls Tryd.prog 115 #[.agg cs.toArray, .int .i64 dp] w' fun e w2 => e = .returned (.int .i64 vc) ∧ Below w'.heap.size w' w2) : Calls Tryd.prog 115 #[.agg #[.int .i64 kd, .slice A0 tx.length c0, .int .i64 tk, .int .i64 mt, .int .i64 pt, .slice A1 nm.length c1, .slice A2 ks.length c2, .bool ov, .int .i64 lm, .slice A3 ts.length c3, .slice A4 th.length c4, .slice A5 el.length c5], .int .i64 dp] w (fun e w' => e = .returned (.int .i64 vc) ∧ Below w.heap.size w w') := by
  replace HT := Lib.hid HT
  replace HH := Lib.hid HH
  subst hvt hvh hbs
  have hnl : (0 : Int) < (el.length : Int) := by omega
  obtain ⟨ad, cx, e1', hKx, hx0, hxj⟩ := elem_at hr (kCmd_sz n) 0 (by omega)
  obtain ⟨X1, l1, C1, x2, x3, x4, X5, l5, C5, X6, l6, C6, x7, x8, X9, l9, C9, X10, l10, C10, X11, l11, C11, rfl⟩ := cmdN_K hKx
  have ez : ad.add (0 * 12) = ad := by simp [Addr.add]
  simp only [ez] at hx0 hxj
  have q0 := hx0 _ rfl; have q1 := hxj 1 _ (by decide) rfl; have q2 := hxj 2 _ (by decide) rfl; have q3 := hxj 3 _ (by decide) rfl; have q4 := hxj 4 _ (by decide) rfl; have q5 := hxj 5 _ (by decide) rfl; have q6 := hxj 6 _ (by decide) rfl; have q7 := hxj 7 _ (by decide) rfl; have q8 := hxj 8 _ (by decide) rfl; have q9 := hxj 9 _ (by decide) rfl; have q10 := hxj 10 _ (by decide) rfl; have q11 := hxj 11 _ (by decide) rfl
  clear hx0 hxj ez
  have FF := Lib.hid (fun (W : World) (h : Below w.heap.size w W) => And.intro (pw_cell_below h q0) (And.intro (pw_cell_below h q1) (And.intro (pw_cell_below h q2) (And.intro (pw_cell_below h q3) (And.intro (pw_cell_below h q4) (And.intro (pw_cell_below h q5) (And.intro (pw_cell_below h q6) (And.intro (pw_cell_below h q7) (And.intro (pw_cell_below h q8) (And.intro (pw_cell_below h q9) (And.intro (pw_cell_below h q10) (pw_cell_below h q11))))))))))))
  clear q0 q1 q2 q3 q4 q5 q6 q7 q8 q9 q10 q11
  replace HC := Lib.hid (fun w' => HC _ w' hKx)
  generalize kindC n (el[0]'(by omega)) = x0 at *
  clear hKx hn hr
  subst e1'
  replace HS := Lib.hid HS
  obtain ⟨A5, hA5⟩ : ∃ A5, A5 = some ad := ⟨_, rfl⟩
  rw [← hA5] at HS ⊢
  replace hA5 := Lib.hid hA5
  skip
  skip
  have HI1 := Lib.hid (fun w => in_yes kd 1 10 w (by omega) (by omega))
  have HI2 := HI1
  have e3 : (kd != 2) = false := by rw [bne_eq_false_iff_eq]; exact h2
  have e4 : ¬ (0 : Int) < (tx.length : Int) := by omega
  have e5 : ¬ 0 < tx.length := by omega
  clear h2 ht
  have hP : Blk (w.alloc (.cells #[.int .i64 kd, .slice A0 tx.length c0, .int .i64 tk, .int .i64 mt, .int .i64 pt, .slice A1 nm.length c1, .slice A2 ks.length c2, .bool ov, .int .i64 lm, .slice A3 ts.length c3, .slice A4 th.length c4, .slice A5 el.length c5] 109)) w.heap.size [.int .i64 kd, .slice A0 tx.length c0, .int .i64 tk, .int .i64 mt, .int .i64 pt, .slice A1 nm.length c1, .slice A2 ks.length c2, .bool ov, .int .i64 lm, .slice A3 ts.length c3, .slice A4 th.length c4, .slice A5 el.length c5] := Blk.made w _ _
  have hB : Below w.heap.size w (w.alloc (.cells #[.int .i64 kd, .slice A0 tx.length c0, .int .i64 tk, .int .i64 mt, .int .i64 pt, .slice A1 nm.length c1, .slice A2 ks.length c2, .bool ov, .int .i64 lm, .slice A3 ts.length c3, .slice A4 th.length c4, .slice A5 el.length c5] 109)) := (by repeat (first | exact Below.refl _ _ | apply below_alloc | apply pw_below_drewN | apply below_drew1 | (refine Below.setCell ?_ (by first | (simp; done) | (simp; omega) | omega) _) ))
  have p0 := (hP).at 0 _ rfl
  have p1 := (hP).at 1 _ rfl
  have p2 := (hP).at 2 _ rfl
  have p3 := (hP).at 3 _ rfl
  have p4 := (hP).at 4 _ rfl
  have p5 := (hP).at 5 _ rfl
  have p6 := (hP).at 6 _ rfl
  have p7 := (hP).at 7 _ rfl
  have p8 := (hP).at 8 _ rfl
  have p9 := (hP).at 9 _ rfl
  have p10 := (hP).at 10 _ rfl
  have p11 := (hP).at 11 _ rfl
  go_enter Tryd.func115, Tryd.ntmps115
  go_wp2_with (go_at_call 52; (first | with_reducible refine (HI1.out _).mono ?_ | with_reducible refine (HI2.out _).mono ?_); rintro e w9 ⟨rfl, rfl⟩)
  refine (HT.out _ hB).mono ?_
  rintro e w1 ⟨rfl, hb1⟩
  have hP1 := hP.below hb1 hP.lt
  have hB1 := hB.trans (hb1.mono hB.size)
  clear hP hB p0 p1 p2 p3 p4 p5 p6 p7 p8 p9 p10 p11 hb1
  have p0 := (hP1).at 0 _ rfl
  have p1 := (hP1).at 1 _ rfl
  have p2 := (hP1).at 2 _ rfl
  have p3 := (hP1).at 3 _ rfl
  have p4 := (hP1).at 4 _ rfl
  have p5 := (hP1).at 5 _ rfl
  have p6 := (hP1).at 6 _ rfl
  have p7 := (hP1).at 7 _ rfl
  have p8 := (hP1).at 8 _ rfl
  have p9 := (hP1).at 9 _ rfl
  have p10 := (hP1).at 10 _ rfl
  have p11 := (hP1).at 11 _ rfl
  go_wp2_with fail
  refine (HH.out _ hB1).mono ?_
  rintro e w2 ⟨rfl, hb2⟩
  have hP2 := hP1.below hb2 hP1.lt
  have hB2 := hB1.trans (hb2.mono hB1.size)
  clear hP1 hB1 p0 p1 p2 p3 p4 p5 p6 p7 p8 p9 p10 p11 hb2
  have p0 := (hP2).at 0 _ rfl
  have p1 := (hP2).at 1 _ rfl
  have p2 := (hP2).at 2 _ rfl
  have p3 := (hP2).at 3 _ rfl
  have p4 := (hP2).at 4 _ rfl
  have p5 := (hP2).at 5 _ rfl
  have p6 := (hP2).at 6 _ rfl
  have p7 := (hP2).at 7 _ rfl
  have p8 := (hP2).at 8 _ rfl
  have p9 := (hP2).at 9 _ rfl
  have p10 := (hP2).at 10 _ rfl
  have p11 := (hP2).at 11 _ rfl
  go_wp2_with fail
  refine (HS.out _ hB2).mono ?_
  rintro e w3 ⟨rfl, hb3⟩
  have hP3 := hP2.below hb3 hP2.lt
  have hB3 := hB2.trans (hb3.mono hB2.size)
  clear hP2 hB2 p0 p1 p2 p3 p4 p5 p6 p7 p8 p9 p10 p11 hb3
  have p0 := (hP3).at 0 _ rfl
  have p1 := (hP3).at 1 _ rfl
  have p2 := (hP3).at 2 _ rfl
  have p3 := (hP3).at 3 _ rfl
  have p4 := (hP3).at 4 _ rfl
  have p5 := (hP3).at 5 _ rfl
  have p6 := (hP3).at 6 _ rfl
  have p7 := (hP3).at 7 _ rfl
  have p8 := (hP3).at 8 _ rfl
  have p9 := (hP3).at 9 _ rfl
  have p10 := (hP3).at 10 _ rfl
  have p11 := (hP3).at 11 _ rfl
  rw [hA5.out] at p11
  have q := FF.out _ hB3
  obtain ⟨q0, q1, q2, q3, q4, q5, q6, q7, q8, q9, q10, q11⟩ := q
  go_wp2_with fail
  refine (HC.out _ hB3).mono ?_
  rintro e w4 ⟨rfl, hb4⟩
  have hB4 := hB3.trans (hb4.mono hB3.size)
  go_wp2_with fail
  all_goals (go_ret; exact ⟨rfl, hB4⟩)
end Go.Proofs.YtijdghplfhfpaaaDoor.H

/- Scripts: the reference's commands shown: the contracts; a list; a command that is no if. -/
namespace Go.Proofs.YtijdghplfhfpaaaDoor.H
open Go.RowKit Go.Proofs.YtijdghplfhfpaaaDoorW.PrintWords Go.Proofs.YtijdghplfhfpaaaDoorW.PrintLast Go.Proofs.YtijdghplfhfpaaaDoor.U
set_option linter.unusedVariables false
set_option linter.unusedSimpArgs false
def RsC (n : Nat) : Prop := ∀ (x : CmdN n) (cs : List Value) (dp : Int) (w : World), (kCmd n).K w x cs → checkC n x dp = 0 → wtC n x ≤ 1048576 →
  Calls Tryd.prog 118 #[.agg cs.toArray] w fun e w' => ∃ v, e = .returned v ∧ Kd.R kAToken 119 w' w.heap.size (fun _ => True) v (restC n x) ∧ Below w.heap.size w w'
def RsL (n : Nat) : Prop := ∀ (A : Option Addr) (c : Nat) (l : List (CmdN n)) (dp : Int) (w : World), (kCmd n).C w A l.length l → errs (fun x => checkC n x dp) l = 0 → (l.map (wtC n)).sum ≤ 1048576 →
  Calls Tryd.prog 74 #[.slice A l.length c] w fun e w' => ∃ v, e = .returned v ∧ Kd.R kAToken 119 w' w.heap.size (fun _ => True) v (l.flatMap (showC n)) ∧ Below w.heap.size w w'
theorem checkC_kind : ∀ {n : Nat} {x : CmdN n} {dp : Int}, checkC n x dp = 0 → 1 ≤ kindC n x ∧ kindC n x ≤ 10
  | 0, x, _, _ => nomatch x
  | n + 1, x, dp, h => by
    obtain ⟨k1, k2, _⟩ := chkC_zero (show chkC (checkT (n + 1)) (kindC n) (checkC n) x dp = 0 from h)
    exact ⟨k1, k2⟩
set_option maxHeartbeats 2000000 in
set_option maxRecDepth 100000 in
theorem listShown_of (n : Nat) (IH : RsC n) : RsL n := by
  intro A c l dp w hr hc hlim
  have h63 := hr.2.1
  have hst := Lib.hid (sum_take (wtC n) l)
  have hhl := Lib.hid (fun k => flat_len (showC n) (wtC n) (showC_len n) (l.take k))
  have HK := Lib.hid (fun k s w => tok_calls k s w)
  replace hc := Lib.hid (fun k hk => errs_all hc k hk)
  replace IH := Lib.hid IH
  replace hr := Lib.hid hr
  replace hlim := Lib.hid hlim
  go_enter Tryd.func74, Tryd.ntmps74
  go_wp2_with fail
  go_loopw [3, 4] (fun v i wr => ∃ k : Nat, k ≤ l.length ∧ i = .int .i64 k ∧ Kd.R kAToken 119 wr w.heap.size (fun _ => True) v ((l.take k).flatMap (showC n)) ∧ Below w.heap.size w wr) (fun _ i _ => l.length - (intOf i).toNat)
  case atStart => exact ⟨0, Nat.zero_le _, rfl, by simpa using Kd.R_nil _ _ _ _ _, Below.refl _ _⟩
  case round =>
    obtain ⟨k, hk, rfl, hR, hB⟩ := hrel
    have hzB := hB.size
    by_cases hlt : k < l.length
    · obtain ⟨ad, cx, e1', hKx, hx0, hxj⟩ := elem_at hr.out (kCmd_sz n) k hlt
      obtain ⟨X1, l1, C1, x2, x3, x4, X5, l5, C5, X6, l6, C6, x7, x8, X9, l9, C9, X10, l10, C10, X11, l11, C11, rfl⟩ := cmdN_K hKx
      have FF := Lib.hid (fun W (h : Below w.heap.size w W) => And.intro (pw_cell_below h (hx0 _ rfl)) (And.intro (pw_cell_below h (hxj 1 _ (by decide) rfl)) (And.intro (pw_cell_below h (hxj 2 _ (by decide) rfl)) (And.intro (pw_cell_below h (hxj 3 _ (by decide) rfl)) (And.intro (pw_cell_below h (hxj 4 _ (by decide) rfl)) (And.intro (pw_cell_below h (hxj 5 _ (by decide) rfl)) (And.intro (pw_cell_below h (hxj 6 _ (by decide) rfl)) (And.intro (pw_cell_below h (hxj 7 _ (by decide) rfl)) (And.intro (pw_cell_below h (hxj 8 _ (by decide) rfl)) (And.intro (pw_cell_below h (hxj 9 _ (by decide) rfl)) (And.intro (pw_cell_below h (hxj 10 _ (by decide) rfl)) (pw_cell_below h (hxj 11 _ (by decide) rfl)))))))))))))
      have hsum : ((l.take k).map (wtC n)).sum + wtC n l[k] ≤ (l.map (wtC n)).sum := hst.out k hlt
      obtain ⟨k1, k2⟩ := checkC_kind (hc.out k hlt)
      have HX := Lib.hid (fun W (h : Below w.heap.size w W) => IH.out (l[k]'hlt) _ dp W ((kCmd n).K_below h hKx) (hc.out k hlt) (by have := hlim.out; omega))
      have HW := Lib.hid (fun w => commandWord_calls (kindC n (l[k]'hlt)) w (by omega) (by omega))
      have hts := List.take_succ_eq_append_getElem hlt
      have hlen := hhl.out k
      have hlx := showC_len n (l[k]'hlt)
      have hsn : (l.take (k + 1)).flatMap (showC n) = ((l.take k).flatMap (showC n) ++ [tk 1 (wordAt commandWords (kindC n l[k]))]) ++ restC n l[k] := by rw [hts, List.flatMap_append]; simp only [List.flatMap_cons, List.flatMap_nil, List.append_nil, showC, List.append_assoc, List.singleton_append]
      have hlim2 := Lib.hid (show ((l.take k).flatMap (showC n)).length + (restC n l[k]).length + 2 ≤ 8 * 1048576 by have := hlim.out; simp only [showC, List.length_cons] at hlx; omega)
      replace hsn := Lib.hid hsn
      clear hts hsum hlen hlx hKx hx0 hxj k1 k2
      generalize wordAt commandWords (kindC n l[k]) = word at *
      generalize kindC n l[k] = x0 at *
      generalize restC n l[k] = Sx at *
      generalize (l.take k).flatMap (showC n) = H at *
      subst e1'
      have i0' : (0 : Int) ≤ (k : Int) := by omega
      have i1' : (k : Int) < (l.length : Int) := by omega
      obtain ⟨q0, q1, q2, q3, q4, q5, q6, q7, q8, q9, q10, q11⟩ := FF.out _ hB
      go_wp2_with fail
      refine (HW.out _).mono ?_
      rintro e w1 ⟨rfl, hb1⟩
      replace hR := Kd.R_below hR hb1
      replace hB := hB.trans (hb1.mono hzB)
      clear hzB hb1 q0 q1 q2 q3 q4 q5 q6 q7 q8 q9 q10 q11
      go_wp2_with fail
      refine (HK.out 1 word _).mono ?_
      rintro e w2 ⟨rfl, hb2⟩
      replace hR := Kd.R_below hR hb2
      replace hB := hB.trans (hb2.mono hB.size)
      have hzB := hB.size
      clear hb2
      go_wp2_with (at_builtin; refine snoc_list rowAToken w.heap.size rfl _ _ rfl u3 H (tk 1 word) [.int .i64 1, .string word, .int .i64 0] (by first | rfl | (simp [Act.eval]; done)) (by first | rfl | (simp [Act.eval]; done)) rfl hR (by omega) (by have := hlim2.out; omega) ?_)
      intro v3 w3 hR3 hb3 hg3
      clear hR hg3
      replace hB := hB.trans hb3
      obtain ⟨q0, q1, q2, q3, q4, q5, q6, q7, q8, q9, q10, q11⟩ := FF.out _ hB
      clear hb3 hzB
      go_wp2_with fail
      refine (HX.out _ hB).mono ?_
      rintro e wa ⟨vL, rfl, hRL, hba⟩
      obtain ⟨AL, cL, rfl, hcL, hCL⟩ := C_of hRL
      replace hR3 := Kd.R_below hR3 hba
      replace hB := hB.trans (hba.mono hB.size)
      clear q0 q1 q2 q3 q4 q5 q6 q7 q8 q9 q10 q11 hba hRL
      have hzB := hB.size
      go_wp2_with (at_builtin; refine rows_list rowAToken w.heap.size rfl _ _ rfl v3 (H ++ [tk 1 word]) Sx AL cL (by first | rfl | (simp [Act.eval]; done)) (by first | rfl | (simp [Act.eval]; done)) hR3 hCL (by omega) (by have := hlim2.out; simp only [List.length_append, List.length_cons, List.length_nil]; omega) ?_)
      intro v5 w5 hR5 hb5 hg5
      go_wp2_with fail
      go_roundw
      case rel => exact ⟨k + 1, hlt, by go_num, by rw [hsn.out]; simpa using hR5, hB.trans hb5⟩
      case measure => simp [intOf]; omega
    · obtain rfl : k = l.length := by omega
      rw [List.take_length] at hR
      have i1' : ¬ (l.length : Int) < (l.length : Int) := by omega
      go_wp2_with fail
      go_ret
      exact ⟨_, rfl, hR, hB⟩
set_option maxHeartbeats 1000000 in
set_option maxRecDepth 100000 in
theorem rs_o (n : Nat) (kd : Int) (A0 : Option Addr) (c0 : Nat) (tx : List ByteArray) (tk' mt pt : Int) (A1 : Option Addr) (c1 : Nat) (nm : List ByteArray) (A2 : Option Addr) (c2 : Nat) (ks : List ByteArray) (ov : Bool) (lm : Int) (A3 : Option Addr) (c3 : Nat) (ts : List (TestN n)) (A4 : Option Addr) (c4 : Nat) (th : List (CmdN n)) (A5 : Option Addr) (c5 : Nat) (el : List (CmdN n)) (w : World) (h2 : ¬ kd = 2) (h0 : tx.length = 0) (hlim : tx.length ≤ 1048576) : Calls Tryd.prog 118 #[.agg #[.int .i64 kd, .slice A0 tx.length c0, .int .i64 tk', .int .i64 mt, .int .i64 pt, .slice A1 nm.length c1, .slice A2 ks.length c2, .bool ov, .int .i64 lm, .slice A3 ts.length c3, .slice A4 th.length c4, .slice A5 el.length c5]] w fun e w' => ∃ v, e = .returned v ∧ Kd.R kAToken 119 w' w.heap.size (fun _ => True) v [tk 5 (⟨#[59]⟩ : ByteArray)] ∧ Below w.heap.size w w' := by
  have b2 : (kd != 2) = true := bne_iff_ne.mpr h2
  have j0 : ¬ (0 : Int) < (tx.length : Int) := by omega
  have j1 : ¬ 0 < tx.length := by omega
  clear h2 h0
  have HK := Lib.hid (fun k s w => tok_calls k s w)
  have hP : BlkT (w.alloc (.cells #[.int .i64 kd, .slice A0 tx.length c0, .int .i64 tk', .int .i64 mt, .int .i64 pt, .slice A1 nm.length c1, .slice A2 ks.length c2, .bool ov, .int .i64 lm, .slice A3 ts.length c3, .slice A4 th.length c4, .slice A5 el.length c5] 109)) w.heap.size 109 [.int .i64 kd, .slice A0 tx.length c0, .int .i64 tk', .int .i64 mt, .int .i64 pt, .slice A1 nm.length c1, .slice A2 ks.length c2, .bool ov, .int .i64 lm, .slice A3 ts.length c3, .slice A4 th.length c4, .slice A5 el.length c5] := BlkT.made w _ _
  have hB : Below w.heap.size w (w.alloc (.cells #[.int .i64 kd, .slice A0 tx.length c0, .int .i64 tk', .int .i64 mt, .int .i64 pt, .slice A1 nm.length c1, .slice A2 ks.length c2, .bool ov, .int .i64 lm, .slice A3 ts.length c3, .slice A4 th.length c4, .slice A5 el.length c5] 109)) := (Below.refl _ _).alloc (Nat.le_refl _) _
  have hR : Kd.R kAToken 119 (w.alloc (.cells #[.int .i64 kd, .slice A0 tx.length c0, .int .i64 tk', .int .i64 mt, .int .i64 pt, .slice A1 nm.length c1, .slice A2 ks.length c2, .bool ov, .int .i64 lm, .slice A3 ts.length c3, .slice A4 th.length c4, .slice A5 el.length c5] 109)) w.heap.size (fun _ => True) (.slice none 0 0) [] := Kd.R_nil _ _ _ _ _
  replace hlim := Lib.hid hlim
  have p0 := hP.1.at 0 _ rfl
  have p1 := hP.1.at 1 _ rfl
  have p2 := hP.1.at 2 _ rfl
  have p3 := hP.1.at 3 _ rfl
  have p4 := hP.1.at 4 _ rfl
  have p5 := hP.1.at 5 _ rfl
  have p6 := hP.1.at 6 _ rfl
  have p7 := hP.1.at 7 _ rfl
  have p8 := hP.1.at 8 _ rfl
  have p9 := hP.1.at 9 _ rfl
  have p10 := hP.1.at 10 _ rfl
  have p11 := hP.1.at 11 _ rfl
  go_enter Tryd.func118, Tryd.ntmps118
  go_wp2_with fail
  skip
  refine (HK.out 5 (⟨#[59]⟩ : ByteArray) _).mono ?_
  rintro e wa ⟨rfl, hba⟩
  replace hP := hP.below hba hP.1.lt
  replace hR := Kd.R_below hR hba
  replace hB := hB.trans (hba.mono hB.size)
  clear hba p0 p1 p2 p3 p4 p5 p6 p7 p8 p9 p10 p11
  have hzB := hB.size
  go_wp2_with (at_builtin; refine snoc_list rowAToken w.heap.size rfl _ _ rfl (.slice none 0 0) [] (tk 5 (⟨#[59]⟩ : ByteArray)) [.int .i64 5, .string (⟨#[59]⟩ : ByteArray), .int .i64 0] (by first | rfl | (simp [Act.eval]; done)) (by first | rfl | (simp [Act.eval]; done)) rfl hR (by omega) (by have := hlim.out; (try simp only [List.length_append, List.length_cons, List.length_nil]); omega) ?_)
  intro va wb hRn hbn hgn
  replace hP := hP.row hR hgn (by decide)
  replace hR : Kd.R kAToken 119 wb w.heap.size (fun _ => True) va [tk 5 (⟨#[59]⟩ : ByteArray)] := by simpa using hRn
  replace hB := hB.trans hbn
  clear hRn hbn hgn hzB
  have p0 := hP.1.at 0 _ rfl
  have p1 := hP.1.at 1 _ rfl
  have p2 := hP.1.at 2 _ rfl
  have p3 := hP.1.at 3 _ rfl
  have p4 := hP.1.at 4 _ rfl
  have p5 := hP.1.at 5 _ rfl
  have p6 := hP.1.at 6 _ rfl
  have p7 := hP.1.at 7 _ rfl
  have p8 := hP.1.at 8 _ rfl
  have p9 := hP.1.at 9 _ rfl
  have p10 := hP.1.at 10 _ rfl
  have p11 := hP.1.at 11 _ rfl
  go_wp2_with fail
  go_ret
  exact ⟨_, rfl, hR, hB⟩
set_option maxHeartbeats 1000000 in
set_option maxRecDepth 100000 in
theorem rs_t (n : Nat) (kd : Int) (A0 : Option Addr) (c0 : Nat) (tx : List ByteArray) (tk' mt pt : Int) (A1 : Option Addr) (c1 : Nat) (nm : List ByteArray) (A2 : Option Addr) (c2 : Nat) (ks : List ByteArray) (ov : Bool) (lm : Int) (A3 : Option Addr) (c3 : Nat) (ts : List (TestN n)) (A4 : Option Addr) (c4 : Nat) (th : List (CmdN n)) (A5 : Option Addr) (c5 : Nat) (el : List (CmdN n)) (w : World) (h2 : ¬ kd = 2) (h0 : 0 < tx.length) (r0 : Kd.C Kd.string w A0 tx.length tx) (hlim : tx.length ≤ 1048576) : Calls Tryd.prog 118 #[.agg #[.int .i64 kd, .slice A0 tx.length c0, .int .i64 tk', .int .i64 mt, .int .i64 pt, .slice A1 nm.length c1, .slice A2 ks.length c2, .bool ov, .int .i64 lm, .slice A3 ts.length c3, .slice A4 th.length c4, .slice A5 el.length c5]] w fun e w' => ∃ v, e = .returned v ∧ Kd.R kAToken 119 w' w.heap.size (fun _ => True) v (strsV tx ++ [tk 5 (⟨#[59]⟩ : ByteArray)]) ∧ Below w.heap.size w w' := by
  have b2 : (kd != 2) = true := bne_iff_ne.mpr h2
  have j0 : (0 : Int) < (tx.length : Int) := by omega
  have hsl := strs_len2 tx
  replace r0 := Lib.hid r0
  replace hlim : tx.length ≤ 1048576 ∧ (strsV tx).length ≤ 2 * 1048576 + 2 := ⟨hlim, by omega⟩
  clear h2 hsl
  have HK := Lib.hid (fun k s w => tok_calls k s w)
  have hP : BlkT (w.alloc (.cells #[.int .i64 kd, .slice A0 tx.length c0, .int .i64 tk', .int .i64 mt, .int .i64 pt, .slice A1 nm.length c1, .slice A2 ks.length c2, .bool ov, .int .i64 lm, .slice A3 ts.length c3, .slice A4 th.length c4, .slice A5 el.length c5] 109)) w.heap.size 109 [.int .i64 kd, .slice A0 tx.length c0, .int .i64 tk', .int .i64 mt, .int .i64 pt, .slice A1 nm.length c1, .slice A2 ks.length c2, .bool ov, .int .i64 lm, .slice A3 ts.length c3, .slice A4 th.length c4, .slice A5 el.length c5] := BlkT.made w _ _
  have hB : Below w.heap.size w (w.alloc (.cells #[.int .i64 kd, .slice A0 tx.length c0, .int .i64 tk', .int .i64 mt, .int .i64 pt, .slice A1 nm.length c1, .slice A2 ks.length c2, .bool ov, .int .i64 lm, .slice A3 ts.length c3, .slice A4 th.length c4, .slice A5 el.length c5] 109)) := (Below.refl _ _).alloc (Nat.le_refl _) _
  have hR : Kd.R kAToken 119 (w.alloc (.cells #[.int .i64 kd, .slice A0 tx.length c0, .int .i64 tk', .int .i64 mt, .int .i64 pt, .slice A1 nm.length c1, .slice A2 ks.length c2, .bool ov, .int .i64 lm, .slice A3 ts.length c3, .slice A4 th.length c4, .slice A5 el.length c5] 109)) w.heap.size (fun _ => True) (.slice none 0 0) [] := Kd.R_nil _ _ _ _ _
  replace hlim := Lib.hid hlim
  have p0 := hP.1.at 0 _ rfl
  have p1 := hP.1.at 1 _ rfl
  have p2 := hP.1.at 2 _ rfl
  have p3 := hP.1.at 3 _ rfl
  have p4 := hP.1.at 4 _ rfl
  have p5 := hP.1.at 5 _ rfl
  have p6 := hP.1.at 6 _ rfl
  have p7 := hP.1.at 7 _ rfl
  have p8 := hP.1.at 8 _ rfl
  have p9 := hP.1.at 9 _ rfl
  have p10 := hP.1.at 10 _ rfl
  have p11 := hP.1.at 11 _ rfl
  go_enter Tryd.func118, Tryd.ntmps118
  go_wp2_with fail
  refine (strsShown_calls A0 c0 tx _ (Kd.C_below r0.out hB) hlim.out.1).mono ?_
  rintro e wa ⟨vL, rfl, hRL, hba⟩
  obtain ⟨AL, cL, rfl, hcL, hCL⟩ := C_of hRL
  replace hP := hP.below hba hP.1.lt
  replace hR := Kd.R_below hR hba
  replace hB := hB.trans (hba.mono hB.size)
  clear hba hRL p0 p1 p2 p3 p4 p5 p6 p7 p8 p9 p10 p11
  have hzB := hB.size
  go_wp2_with (at_builtin; refine rows_list rowAToken w.heap.size rfl _ _ rfl (.slice none 0 0) [] (strsV tx) AL cL (by first | rfl | (simp [Act.eval]; done)) (by first | rfl | (simp [Act.eval]; done)) hR hCL (by omega) (by have := hlim.out; (try simp only [List.length_append, List.length_cons, List.length_nil]); omega) ?_)
  intro va wb hRn hbn hgn
  replace hP := hP.row hR hgn (by decide)
  replace hR : Kd.R kAToken 119 wb w.heap.size (fun _ => True) va (strsV tx) := by simpa using hRn
  replace hB := hB.trans hbn
  clear hRn hbn hgn hzB hCL hcL
  have p0 := hP.1.at 0 _ rfl
  have p1 := hP.1.at 1 _ rfl
  have p2 := hP.1.at 2 _ rfl
  have p3 := hP.1.at 3 _ rfl
  have p4 := hP.1.at 4 _ rfl
  have p5 := hP.1.at 5 _ rfl
  have p6 := hP.1.at 6 _ rfl
  have p7 := hP.1.at 7 _ rfl
  have p8 := hP.1.at 8 _ rfl
  have p9 := hP.1.at 9 _ rfl
  have p10 := hP.1.at 10 _ rfl
  have p11 := hP.1.at 11 _ rfl
  go_wp2_with fail
  skip
  refine (HK.out 5 (⟨#[59]⟩ : ByteArray) _).mono ?_
  rintro e wc ⟨rfl, hba⟩
  replace hP := hP.below hba hP.1.lt
  replace hR := Kd.R_below hR hba
  replace hB := hB.trans (hba.mono hB.size)
  clear hba p0 p1 p2 p3 p4 p5 p6 p7 p8 p9 p10 p11
  have hzB := hB.size
  go_wp2_with (at_builtin; refine snoc_list rowAToken w.heap.size rfl _ _ rfl va (strsV tx) (tk 5 (⟨#[59]⟩ : ByteArray)) [.int .i64 5, .string (⟨#[59]⟩ : ByteArray), .int .i64 0] (by first | rfl | (simp [Act.eval]; done)) (by first | rfl | (simp [Act.eval]; done)) rfl hR (by omega) (by have := hlim.out; (try simp only [List.length_append, List.length_cons, List.length_nil]); omega) ?_)
  intro vc wd hRn hbn hgn
  replace hP := hP.row hR hgn (by decide)
  replace hR : Kd.R kAToken 119 wd w.heap.size (fun _ => True) vc (strsV tx ++ [tk 5 (⟨#[59]⟩ : ByteArray)]) := by simpa using hRn
  replace hB := hB.trans hbn
  clear hRn hbn hgn hzB
  have p0 := hP.1.at 0 _ rfl
  have p1 := hP.1.at 1 _ rfl
  have p2 := hP.1.at 2 _ rfl
  have p3 := hP.1.at 3 _ rfl
  have p4 := hP.1.at 4 _ rfl
  have p5 := hP.1.at 5 _ rfl
  have p6 := hP.1.at 6 _ rfl
  have p7 := hP.1.at 7 _ rfl
  have p8 := hP.1.at 8 _ rfl
  have p9 := hP.1.at 9 _ rfl
  have p10 := hP.1.at 10 _ rfl
  have p11 := hP.1.at 11 _ rfl
  go_wp2_with fail
  go_ret
  exact ⟨_, rfl, hR, hB⟩
end Go.Proofs.YtijdghplfhfpaaaDoor.H
