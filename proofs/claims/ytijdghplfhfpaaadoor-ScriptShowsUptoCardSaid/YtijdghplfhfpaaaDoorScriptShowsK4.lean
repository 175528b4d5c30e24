/- The claim ScriptShowsUptoCardSaid, part 4 of 8. -/
import Derived.Test.YtijdghplfhfpaaaDoorScriptShowsK3
import Derived.Deep.QuietTactic
import Derived.BigQuiet
/- Scripts: is a test in form? The program's walk. -/
namespace Go.Proofs.YtijdghplfhfpaaaDoor.H
open Go.RowKit Go.Proofs.YtijdghplfhfpaaaDoorW.PrintWords Go.Proofs.YtijdghplfhfpaaaDoorW.PrintLast Go.Proofs.YtijdghplfhfpaaaDoor.U
set_option linter.unusedVariables false
set_option linter.unusedSimpArgs false
def ChT (n : Nat) : Prop := ∀ (t : TestN n) (cs : List Value) (dp : Int) (w : World), (kTest n).K w t cs → 0 ≤ dp → dp ≤ 10 →
  Calls Tryd.prog 159 #[.agg cs.toArray, .int .i64 dp] w fun e w' => e = .returned (.int .i64 (checkT n t dp)) ∧ Below w.heap.size w w'
end Go.Proofs.YtijdghplfhfpaaaDoor.H

/- Scripts: a test that is not in form: kind group A. -/
namespace Go.Proofs.YtijdghplfhfpaaaDoor.H
open Go.RowKit Go.Proofs.YtijdghplfhfpaaaDoorW.PrintWords Go.Proofs.YtijdghplfhfpaaaDoorW.PrintLast Go.Proofs.YtijdghplfhfpaaaDoor.U
set_option linter.unusedVariables false
set_option linter.unusedSimpArgs false
set_option maxHeartbeats 4000000 in
set_option maxRecDepth 100000 in
theorem chk_A (n : Nat) (A1 : Option Addr) (c1 : Nat) (A2 : Option Addr) (c2 : Nat) (A3 : Option Addr) (c3 : Nat) (kd mt pt : Int) (nm ks : List ByteArray) (ov : Bool) (lm : Int) (ts : List (TestN n)) (dp : Int) (w : World) (h0 : 0 ≤ dp) (h6 : dp ≤ 6) (k1 : 1 ≤ kd) (k2 : kd ≤ 2) (hf : ¬ formT (⟨kd, mt, pt, nm, ks, ov, lm, ts⟩ : TestF (TestN n))) : Calls Tryd.prog 159 #[.agg #[.int .i64 kd, .int .i64 mt, .int .i64 pt, .slice A1 nm.length c1, .slice A2 ks.length c2, .bool ov, .int .i64 lm, .slice A3 ts.length c3], .int .i64 dp] w (fun e w' => e = .returned (.int .i64 3) ∧ Below w.heap.size w w') := by
  have hf2 : ¬ (nm.length = 0 ∧ ks.length = 0 ∧ mt = 0 ∧ pt = 0 ∧ ov = false ∧ lm = 0 ∧ ts.length = 0) := by
    intro h
    apply hf
    obtain ⟨h1, h2, h3, h4, h5, h6, h7⟩ := h
    simp only [formT]
    rw [if_neg (by omega), if_neg (by omega), if_neg (by omega), if_neg (by omega), if_neg (by omega), if_neg (by omega)]
    exact ⟨h1, ⟨h2, h3⟩, h4, ⟨h5, h6⟩, h7⟩
  clear hf
  replace hf2 := Lib.hid hf2
  have e1 : ¬ kd < 1 := by omega
  have e2 : ¬ 10 < kd := by omega
  have e3 : ¬ 6 < dp := by omega
  have e4 : kd < 3 := by omega
  have e5 : ¬ 5 < kd := by omega
  have b3 : (kd == 3) = false := by rw [beq_eq_false_iff_ne]; omega
  have b4 : (kd == 4) = false := by rw [beq_eq_false_iff_ne]; omega
  have b5 : (kd == 5) = false := by rw [beq_eq_false_iff_ne]; omega
  have b6 : (kd == 6) = false := by rw [beq_eq_false_iff_ne]; omega
  have b7 : (kd == 7) = false := by rw [beq_eq_false_iff_ne]; omega
  have b8 : (kd == 8) = false := by rw [beq_eq_false_iff_ne]; omega
  have b9 : (kd == 9) = false := by rw [beq_eq_false_iff_ne]; omega
  have b10 : (kd == 10) = false := by rw [beq_eq_false_iff_ne]; omega
  have nk3 : (kd != 3) = true := by rw [bne_iff_ne]; omega
  have nk6 : (kd != 6) = true := by rw [bne_iff_ne]; omega
  have hP : Blk (w.alloc (.cells #[.int .i64 kd, .int .i64 mt, .int .i64 pt, .slice A1 nm.length c1, .slice A2 ks.length c2, .bool ov, .int .i64 lm, .slice A3 ts.length c3] 107)) w.heap.size [.int .i64 kd, .int .i64 mt, .int .i64 pt, .slice A1 nm.length c1, .slice A2 ks.length c2, .bool ov, .int .i64 lm, .slice A3 ts.length c3] := Blk.made w _ _
  have p0 := hP.at 0 _ rfl
  have p1 := hP.at 1 _ rfl
  have p2 := hP.at 2 _ rfl
  have p3 := hP.at 3 _ rfl
  have p4 := hP.at 4 _ rfl
  have p5 := hP.at 5 _ rfl
  have p6 := hP.at 6 _ rfl
  have p7 := hP.at 7 _ rfl
  go_enter Tryd.func159, Tryd.ntmps159
  go_wp2_with fail
  all_goals (first | (go_ret; exact ⟨rfl, (by repeat (first | exact Below.refl _ _ | apply below_alloc | apply pw_below_drewN | apply below_drew1 | (refine Below.setCell ?_ (by first | (simp; done) | (simp; omega) | omega) _) ))⟩) | (exfalso; have h9 := hf2.out; clear hf2 hP p0 p1 p2 p3 p4 p5 p6 p7; simp_all; done) | (exfalso; have h9 := hf2.out; clear hf2 hP p0 p1 p2 p3 p4 p5 p6 p7; simp_all; omega))

end Go.Proofs.YtijdghplfhfpaaaDoor.H

/- Scripts: a test that is not in form: kind group N. -/
namespace Go.Proofs.YtijdghplfhfpaaaDoor.H
open Go.RowKit Go.Proofs.YtijdghplfhfpaaaDoorW.PrintWords Go.Proofs.YtijdghplfhfpaaaDoorW.PrintLast Go.Proofs.YtijdghplfhfpaaaDoor.U
set_option linter.unusedVariables false
set_option linter.unusedSimpArgs false
set_option maxHeartbeats 4000000 in
set_option maxRecDepth 100000 in
theorem chk_N (n : Nat) (A1 : Option Addr) (c1 : Nat) (A2 : Option Addr) (c2 : Nat) (A3 : Option Addr) (c3 : Nat) (kd mt pt : Int) (nm ks : List ByteArray) (ov : Bool) (lm : Int) (ts : List (TestN n)) (dp : Int) (w : World) (h0 : 0 ≤ dp) (h6 : dp ≤ 6) (k1 : 3 ≤ kd) (k2 : kd ≤ 3) (hf : ¬ formT (⟨kd, mt, pt, nm, ks, ov, lm, ts⟩ : TestF (TestN n))) : Calls Tryd.prog 159 #[.agg #[.int .i64 kd, .int .i64 mt, .int .i64 pt, .slice A1 nm.length c1, .slice A2 ks.length c2, .bool ov, .int .i64 lm, .slice A3 ts.length c3], .int .i64 dp] w (fun e w' => e = .returned (.int .i64 3) ∧ Below w.heap.size w w') := by
  have hf2 : ¬ (nm.length = 0 ∧ ks.length = 0 ∧ mt = 0 ∧ pt = 0 ∧ ov = false ∧ lm = 0 ∧ ts.length = 1) := by
    intro h
    apply hf
    obtain ⟨h1, h2, h3, h4, h5, h6, h7⟩ := h
    simp only [formT]
    rw [if_neg (by omega), if_neg (by omega), if_neg (by omega), if_neg (by omega), if_pos (by omega)]
    exact ⟨h1, ⟨h2, h3⟩, h4, ⟨h5, h6⟩, h7⟩
  clear hf
  replace hf2 := Lib.hid hf2
  have e1 : ¬ kd < 1 := by omega
  have e2 : ¬ 10 < kd := by omega
  have e3 : ¬ 6 < dp := by omega
  have e4 : ¬ kd < 3 := by omega
  have e5 : ¬ 5 < kd := by omega
  have b3 : (kd == 3) = true := by rw [beq_iff_eq]; omega
  have b4 : (kd == 4) = false := by rw [beq_eq_false_iff_ne]; omega
  have b5 : (kd == 5) = false := by rw [beq_eq_false_iff_ne]; omega
  have b6 : (kd == 6) = false := by rw [beq_eq_false_iff_ne]; omega
  have b7 : (kd == 7) = false := by rw [beq_eq_false_iff_ne]; omega
  have b8 : (kd == 8) = false := by rw [beq_eq_false_iff_ne]; omega
  have b9 : (kd == 9) = false := by rw [beq_eq_false_iff_ne]; omega
  have b10 : (kd == 10) = false := by rw [beq_eq_false_iff_ne]; omega
  have nk3 : (kd != 3) = false := by rw [bne_eq_false_iff_eq]; omega
  have nk6 : (kd != 6) = true := by rw [bne_iff_ne]; omega
  have hP : Blk (w.alloc (.cells #[.int .i64 kd, .int .i64 mt, .int .i64 pt, .slice A1 nm.length c1, .slice A2 ks.length c2, .bool ov, .int .i64 lm, .slice A3 ts.length c3] 107)) w.heap.size [.int .i64 kd, .int .i64 mt, .int .i64 pt, .slice A1 nm.length c1, .slice A2 ks.length c2, .bool ov, .int .i64 lm, .slice A3 ts.length c3] := Blk.made w _ _
  have p0 := hP.at 0 _ rfl
  have p1 := hP.at 1 _ rfl
  have p2 := hP.at 2 _ rfl
  have p3 := hP.at 3 _ rfl
  have p4 := hP.at 4 _ rfl
  have p5 := hP.at 5 _ rfl
  have p6 := hP.at 6 _ rfl
  have p7 := hP.at 7 _ rfl
  go_enter Tryd.func159, Tryd.ntmps159
  go_wp2_with fail
  all_goals (first | (go_ret; exact ⟨rfl, (by repeat (first | exact Below.refl _ _ | apply below_alloc | apply pw_below_drewN | apply below_drew1 | (refine Below.setCell ?_ (by first | (simp; done) | (simp; omega) | omega) _) ))⟩) | (exfalso; have h9 := hf2.out; clear hf2 hP p0 p1 p2 p3 p4 p5 p6 p7; simp_all; done) | (exfalso; have h9 := hf2.out; clear hf2 hP p0 p1 p2 p3 p4 p5 p6 p7; simp_all; omega))

end Go.Proofs.YtijdghplfhfpaaaDoor.H

/- Scripts: a test that is not in form: kind group L. -/
namespace Go.Proofs.YtijdghplfhfpaaaDoor.H
open Go.RowKit Go.Proofs.YtijdghplfhfpaaaDoorW.PrintWords Go.Proofs.YtijdghplfhfpaaaDoorW.PrintLast Go.Proofs.YtijdghplfhfpaaaDoor.U
set_option linter.unusedVariables false
set_option linter.unusedSimpArgs false
set_option maxHeartbeats 4000000 in
set_option maxRecDepth 100000 in
theorem chk_L (n : Nat) (A1 : Option Addr) (c1 : Nat) (A2 : Option Addr) (c2 : Nat) (A3 : Option Addr) (c3 : Nat) (kd mt pt : Int) (nm ks : List ByteArray) (ov : Bool) (lm : Int) (ts : List (TestN n)) (dp : Int) (w : World) (h0 : 0 ≤ dp) (h6 : dp ≤ 6) (k1 : 4 ≤ kd) (k2 : kd ≤ 5) (hf : ¬ formT (⟨kd, mt, pt, nm, ks, ov, lm, ts⟩ : TestF (TestN n))) : Calls Tryd.prog 159 #[.agg #[.int .i64 kd, .int .i64 mt, .int .i64 pt, .slice A1 nm.length c1, .slice A2 ks.length c2, .bool ov, .int .i64 lm, .slice A3 ts.length c3], .int .i64 dp] w (fun e w' => e = .returned (.int .i64 3) ∧ Below w.heap.size w w') := by
  have hf2 : ¬ (nm.length = 0 ∧ ks.length = 0 ∧ mt = 0 ∧ pt = 0 ∧ ov = false ∧ lm = 0 ∧ 0 < ts.length) := by
    intro h
    apply hf
    obtain ⟨h1, h2, h3, h4, h5, h6, h7⟩ := h
    simp only [formT]
    rw [if_neg (by omega), if_neg (by omega), if_neg (by omega), if_neg (by omega), if_neg (by omega), if_pos (by omega)]
    exact ⟨h1, ⟨h2, h3⟩, h4, ⟨h5, h6⟩, h7⟩
  clear hf
  replace hf2 := Lib.hid hf2
  have e1 : ¬ kd < 1 := by omega
  have e2 : ¬ 10 < kd := by omega
  have e3 : ¬ 6 < dp := by omega
  have e4 : ¬ kd < 3 := by omega
  have e5 : ¬ 5 < kd := by omega
  have b3 : (kd == 3) = false := by rw [beq_eq_false_iff_ne]; omega
  have b6 : (kd == 6) = false := by rw [beq_eq_false_iff_ne]; omega
  have b7 : (kd == 7) = false := by rw [beq_eq_false_iff_ne]; omega
  have b8 : (kd == 8) = false := by rw [beq_eq_false_iff_ne]; omega
  have b9 : (kd == 9) = false := by rw [beq_eq_false_iff_ne]; omega
  have b10 : (kd == 10) = false := by rw [beq_eq_false_iff_ne]; omega
  have nk3 : (kd != 3) = true := by rw [bne_iff_ne]; omega
  have nk6 : (kd != 6) = true := by rw [bne_iff_ne]; omega
  have hP : Blk (w.alloc (.cells #[.int .i64 kd, .int .i64 mt, .int .i64 pt, .slice A1 nm.length c1, .slice A2 ks.length c2, .bool ov, .int .i64 lm, .slice A3 ts.length c3] 107)) w.heap.size [.int .i64 kd, .int .i64 mt, .int .i64 pt, .slice A1 nm.length c1, .slice A2 ks.length c2, .bool ov, .int .i64 lm, .slice A3 ts.length c3] := Blk.made w _ _
  have p0 := hP.at 0 _ rfl
  have p1 := hP.at 1 _ rfl
  have p2 := hP.at 2 _ rfl
  have p3 := hP.at 3 _ rfl
  have p4 := hP.at 4 _ rfl
  have p5 := hP.at 5 _ rfl
  have p6 := hP.at 6 _ rfl
  have p7 := hP.at 7 _ rfl
  go_enter Tryd.func159, Tryd.ntmps159
  go_wp2_with fail
  all_goals (first | (go_ret; exact ⟨rfl, (by repeat (first | exact Below.refl _ _ | apply below_alloc | apply pw_below_drewN | apply below_drew1 | (refine Below.setCell ?_ (by first | (simp; done) | (simp; omega) | omega) _) ))⟩) | (exfalso; have h9 := hf2.out; clear hf2 hP p0 p1 p2 p3 p4 p5 p6 p7; simp_all; done) | (exfalso; have h9 := hf2.out; clear hf2 hP p0 p1 p2 p3 p4 p5 p6 p7; simp_all; omega))

end Go.Proofs.YtijdghplfhfpaaaDoor.H

/- Scripts: a test that is not in form: kind group H. -/
namespace Go.Proofs.YtijdghplfhfpaaaDoor.H
open Go.RowKit Go.Proofs.YtijdghplfhfpaaaDoorW.PrintWords Go.Proofs.YtijdghplfhfpaaaDoorW.PrintLast Go.Proofs.YtijdghplfhfpaaaDoor.U
set_option linter.unusedVariables false
set_option linter.unusedSimpArgs false
set_option maxHeartbeats 4000000 in
set_option maxRecDepth 100000 in
theorem chk_H (n : Nat) (A1 : Option Addr) (c1 : Nat) (A2 : Option Addr) (c2 : Nat) (A3 : Option Addr) (c3 : Nat) (kd mt pt : Int) (nm ks : List ByteArray) (ov : Bool) (lm : Int) (ts : List (TestN n)) (dp : Int) (w : World) (h0 : 0 ≤ dp) (h6 : dp ≤ 6) (k1 : 6 ≤ kd) (k2 : kd ≤ 6) (hf : ¬ formT (⟨kd, mt, pt, nm, ks, ov, lm, ts⟩ : TestF (TestN n))) : Calls Tryd.prog 159 #[.agg #[.int .i64 kd, .int .i64 mt, .int .i64 pt, .slice A1 nm.length c1, .slice A2 ks.length c2, .bool ov, .int .i64 lm, .slice A3 ts.length c3], .int .i64 dp] w (fun e w' => e = .returned (.int .i64 3) ∧ Below w.heap.size w w') := by
  have hf2 : ¬ (0 < nm.length ∧ 0 < ks.length ∧ 1 ≤ mt ∧ mt ≤ 3 ∧ pt = 0 ∧ ov = false ∧ lm = 0 ∧ ts.length = 0) := by
    intro h
    apply hf
    obtain ⟨h1, h2, h3, h4, h5, h6, h7, h8⟩ := h
    simp only [formT]
    rw [if_pos (by omega), if_pos (by omega), if_neg (by omega), if_neg (by omega), if_neg (by omega), if_neg (by omega)]
    exact ⟨h1, ⟨h2, h3, h4⟩, h5, ⟨h6, h7⟩, h8⟩
  clear hf
  replace hf2 := Lib.hid hf2
  have e1 : ¬ kd < 1 := by omega
  have e2 : ¬ 10 < kd := by omega
  have e3 : ¬ 6 < dp := by omega
  have e4 : ¬ kd < 3 := by omega
  have e5 : 5 < kd := by omega
  have b3 : (kd == 3) = false := by rw [beq_eq_false_iff_ne]; omega
  have b4 : (kd == 4) = false := by rw [beq_eq_false_iff_ne]; omega
  have b5 : (kd == 5) = false := by rw [beq_eq_false_iff_ne]; omega
  have b6 : (kd == 6) = true := by rw [beq_iff_eq]; omega
  have b7 : (kd == 7) = false := by rw [beq_eq_false_iff_ne]; omega
  have b8 : (kd == 8) = false := by rw [beq_eq_false_iff_ne]; omega
  have b9 : (kd == 9) = false := by rw [beq_eq_false_iff_ne]; omega
  have b10 : (kd == 10) = false := by rw [beq_eq_false_iff_ne]; omega
  have nk3 : (kd != 3) = true := by rw [bne_iff_ne]; omega
  have nk6 : (kd != 6) = false := by rw [bne_eq_false_iff_eq]; omega
  have hP : Blk (w.alloc (.cells #[.int .i64 kd, .int .i64 mt, .int .i64 pt, .slice A1 nm.length c1, .slice A2 ks.length c2, .bool ov, .int .i64 lm, .slice A3 ts.length c3] 107)) w.heap.size [.int .i64 kd, .int .i64 mt, .int .i64 pt, .slice A1 nm.length c1, .slice A2 ks.length c2, .bool ov, .int .i64 lm, .slice A3 ts.length c3] := Blk.made w _ _
  have p0 := hP.at 0 _ rfl
  have p1 := hP.at 1 _ rfl
  have p2 := hP.at 2 _ rfl
  have p3 := hP.at 3 _ rfl
  have p4 := hP.at 4 _ rfl
  have p5 := hP.at 5 _ rfl
  have p6 := hP.at 6 _ rfl
  have p7 := hP.at 7 _ rfl
  go_enter Tryd.func159, Tryd.ntmps159
  go_wp2_with fail
  all_goals first | (first | (go_ret; exact ⟨rfl, (by repeat (first | exact Below.refl _ _ | apply below_alloc | apply pw_below_drewN | apply below_drew1 | (refine Below.setCell ?_ (by first | (simp; done) | (simp; omega) | omega) _) ))⟩) | (exfalso; have h9 := hf2.out; clear hf2 hP p0 p1 p2 p3 p4 p5 p6 p7; simp_all; done) | (exfalso; have h9 := hf2.out; clear hf2 hP p0 p1 p2 p3 p4 p5 p6 p7; simp_all; omega)) | (go_region; all_goals go_wp2_with fail; all_goals (first | (go_ret; exact ⟨rfl, (by repeat (first | exact Below.refl _ _ | apply below_alloc | apply pw_below_drewN | apply below_drew1 | (refine Below.setCell ?_ (by first | (simp; done) | (simp; omega) | omega) _) ))⟩) | (exfalso; have h9 := hf2.out; clear hf2 hP p0 p1 p2 p3 p4 p5 p6 p7; simp_all; done) | (exfalso; have h9 := hf2.out; clear hf2 hP p0 p1 p2 p3 p4 p5 p6 p7; simp_all; omega)))

end Go.Proofs.YtijdghplfhfpaaaDoor.H

/- Scripts: a test that is not in form: kind group D. -/
namespace Go.Proofs.YtijdghplfhfpaaaDoor.H
open Go.RowKit Go.Proofs.YtijdghplfhfpaaaDoorW.PrintWords Go.Proofs.YtijdghplfhfpaaaDoorW.PrintLast Go.Proofs.YtijdghplfhfpaaaDoor.U
set_option linter.unusedVariables false
set_option linter.unusedSimpArgs false
set_option maxHeartbeats 4000000 in
set_option maxRecDepth 100000 in
theorem chk_D (n : Nat) (A1 : Option Addr) (c1 : Nat) (A2 : Option Addr) (c2 : Nat) (A3 : Option Addr) (c3 : Nat) (kd mt pt : Int) (nm ks : List ByteArray) (ov : Bool) (lm : Int) (ts : List (TestN n)) (dp : Int) (w : World) (h0 : 0 ≤ dp) (h6 : dp ≤ 6) (k1 : 7 ≤ kd) (k2 : kd ≤ 8) (hf : ¬ formT (⟨kd, mt, pt, nm, ks, ov, lm, ts⟩ : TestF (TestN n))) : Calls Tryd.prog 159 #[.agg #[.int .i64 kd, .int .i64 mt, .int .i64 pt, .slice A1 nm.length c1, .slice A2 ks.length c2, .bool ov, .int .i64 lm, .slice A3 ts.length c3], .int .i64 dp] w (fun e w' => e = .returned (.int .i64 3) ∧ Below w.heap.size w w') := by
  have hf2 : ¬ (0 < nm.length ∧ 0 < ks.length ∧ 1 ≤ mt ∧ mt ≤ 3 ∧ 1 ≤ pt ∧ pt ≤ 3 ∧ ov = false ∧ lm = 0 ∧ ts.length = 0) := by
    intro h
    apply hf
    obtain ⟨h1, h2, h3, h4, h5, h6, h7, h8, h9⟩ := h
    simp only [formT]
    rw [if_pos (by omega), if_pos (by omega), if_pos (by omega), if_neg (by omega), if_neg (by omega), if_neg (by omega)]
    exact ⟨h1, ⟨h2, h3, h4⟩, ⟨h5, h6⟩, ⟨h7, h8⟩, h9⟩
  clear hf
  replace hf2 := Lib.hid hf2
  have e1 : ¬ kd < 1 := by omega
  have e2 : ¬ 10 < kd := by omega
  have e3 : ¬ 6 < dp := by omega
  have e4 : ¬ kd < 3 := by omega
  have e5 : 5 < kd := by omega
  have b3 : (kd == 3) = false := by rw [beq_eq_false_iff_ne]; omega
  have b4 : (kd == 4) = false := by rw [beq_eq_false_iff_ne]; omega
  have b5 : (kd == 5) = false := by rw [beq_eq_false_iff_ne]; omega
  have b6 : (kd == 6) = false := by rw [beq_eq_false_iff_ne]; omega
  have b9 : (kd == 9) = false := by rw [beq_eq_false_iff_ne]; omega
  have b10 : (kd == 10) = false := by rw [beq_eq_false_iff_ne]; omega
  have nk3 : (kd != 3) = true := by rw [bne_iff_ne]; omega
  have nk6 : (kd != 6) = true := by rw [bne_iff_ne]; omega
  have hP : Blk (w.alloc (.cells #[.int .i64 kd, .int .i64 mt, .int .i64 pt, .slice A1 nm.length c1, .slice A2 ks.length c2, .bool ov, .int .i64 lm, .slice A3 ts.length c3] 107)) w.heap.size [.int .i64 kd, .int .i64 mt, .int .i64 pt, .slice A1 nm.length c1, .slice A2 ks.length c2, .bool ov, .int .i64 lm, .slice A3 ts.length c3] := Blk.made w _ _
  have p0 := hP.at 0 _ rfl
  have p1 := hP.at 1 _ rfl
  have p2 := hP.at 2 _ rfl
  have p3 := hP.at 3 _ rfl
  have p4 := hP.at 4 _ rfl
  have p5 := hP.at 5 _ rfl
  have p6 := hP.at 6 _ rfl
  have p7 := hP.at 7 _ rfl
  go_enter Tryd.func159, Tryd.ntmps159
  go_wp2_with fail
  all_goals first | (first | (go_ret; exact ⟨rfl, (by repeat (first | exact Below.refl _ _ | apply below_alloc | apply pw_below_drewN | apply below_drew1 | (refine Below.setCell ?_ (by first | (simp; done) | (simp; omega) | omega) _) ))⟩) | (exfalso; have h9 := hf2.out; clear hf2 hP p0 p1 p2 p3 p4 p5 p6 p7; simp_all; done) | (exfalso; have h9 := hf2.out; clear hf2 hP p0 p1 p2 p3 p4 p5 p6 p7; simp_all; omega)) | (go_region; all_goals go_wp2_with fail; all_goals (first | (go_ret; exact ⟨rfl, (by repeat (first | exact Below.refl _ _ | apply below_alloc | apply pw_below_drewN | apply below_drew1 | (refine Below.setCell ?_ (by first | (simp; done) | (simp; omega) | omega) _) ))⟩) | (exfalso; have h9 := hf2.out; clear hf2 hP p0 p1 p2 p3 p4 p5 p6 p7; simp_all; done) | (exfalso; have h9 := hf2.out; clear hf2 hP p0 p1 p2 p3 p4 p5 p6 p7; simp_all; omega)))

end Go.Proofs.YtijdghplfhfpaaaDoor.H

/- Scripts: a test that is not in form: kind group E. -/
namespace Go.Proofs.YtijdghplfhfpaaaDoor.H
open Go.RowKit Go.Proofs.YtijdghplfhfpaaaDoorW.PrintWords Go.Proofs.YtijdghplfhfpaaaDoorW.PrintLast Go.Proofs.YtijdghplfhfpaaaDoor.U
set_option linter.unusedVariables false
set_option linter.unusedSimpArgs false
set_option maxHeartbeats 4000000 in
set_option maxRecDepth 100000 in
theorem chk_E (n : Nat) (A1 : Option Addr) (c1 : Nat) (A2 : Option Addr) (c2 : Nat) (A3 : Option Addr) (c3 : Nat) (kd mt pt : Int) (nm ks : List ByteArray) (ov : Bool) (lm : Int) (ts : List (TestN n)) (dp : Int) (w : World) (h0 : 0 ≤ dp) (h6 : dp ≤ 6) (k1 : 9 ≤ kd) (k2 : kd ≤ 9) (hf : ¬ formT (⟨kd, mt, pt, nm, ks, ov, lm, ts⟩ : TestF (TestN n))) : Calls Tryd.prog 159 #[.agg #[.int .i64 kd, .int .i64 mt, .int .i64 pt, .slice A1 nm.length c1, .slice A2 ks.length c2, .bool ov, .int .i64 lm, .slice A3 ts.length c3], .int .i64 dp] w (fun e w' => e = .returned (.int .i64 3) ∧ Below w.heap.size w w') := by
  have hf2 : ¬ (0 < nm.length ∧ ks.length = 0 ∧ mt = 0 ∧ pt = 0 ∧ ov = false ∧ lm = 0 ∧ ts.length = 0) := by
    intro h
    apply hf
    obtain ⟨h1, h2, h3, h4, h5, h6, h7⟩ := h
    simp only [formT]
    rw [if_pos (by omega), if_neg (by omega), if_neg (by omega), if_neg (by omega), if_neg (by omega), if_neg (by omega)]
    exact ⟨h1, ⟨h2, h3⟩, h4, ⟨h5, h6⟩, h7⟩
  clear hf
  replace hf2 := Lib.hid hf2
  have e1 : ¬ kd < 1 := by omega
  have e2 : ¬ 10 < kd := by omega
  have e3 : ¬ 6 < dp := by omega
  have e4 : ¬ kd < 3 := by omega
  have e5 : 5 < kd := by omega
  have b3 : (kd == 3) = false := by rw [beq_eq_false_iff_ne]; omega
  have b4 : (kd == 4) = false := by rw [beq_eq_false_iff_ne]; omega
  have b5 : (kd == 5) = false := by rw [beq_eq_false_iff_ne]; omega
  have b6 : (kd == 6) = false := by rw [beq_eq_false_iff_ne]; omega
  have b7 : (kd == 7) = false := by rw [beq_eq_false_iff_ne]; omega
  have b8 : (kd == 8) = false := by rw [beq_eq_false_iff_ne]; omega
  have b9 : (kd == 9) = true := by rw [beq_iff_eq]; omega
  have b10 : (kd == 10) = false := by rw [beq_eq_false_iff_ne]; omega
  have nk3 : (kd != 3) = true := by rw [bne_iff_ne]; omega
  have nk6 : (kd != 6) = true := by rw [bne_iff_ne]; omega
  have hP : Blk (w.alloc (.cells #[.int .i64 kd, .int .i64 mt, .int .i64 pt, .slice A1 nm.length c1, .slice A2 ks.length c2, .bool ov, .int .i64 lm, .slice A3 ts.length c3] 107)) w.heap.size [.int .i64 kd, .int .i64 mt, .int .i64 pt, .slice A1 nm.length c1, .slice A2 ks.length c2, .bool ov, .int .i64 lm, .slice A3 ts.length c3] := Blk.made w _ _
  have p0 := hP.at 0 _ rfl
  have p1 := hP.at 1 _ rfl
  have p2 := hP.at 2 _ rfl
  have p3 := hP.at 3 _ rfl
  have p4 := hP.at 4 _ rfl
  have p5 := hP.at 5 _ rfl
  have p6 := hP.at 6 _ rfl
  have p7 := hP.at 7 _ rfl
  go_enter Tryd.func159, Tryd.ntmps159
  go_wp2_with fail
  all_goals (first | (go_ret; exact ⟨rfl, (by repeat (first | exact Below.refl _ _ | apply below_alloc | apply pw_below_drewN | apply below_drew1 | (refine Below.setCell ?_ (by first | (simp; done) | (simp; omega) | omega) _) ))⟩) | (exfalso; have h9 := hf2.out; clear hf2 hP p0 p1 p2 p3 p4 p5 p6 p7; simp_all; done) | (exfalso; have h9 := hf2.out; clear hf2 hP p0 p1 p2 p3 p4 p5 p6 p7; simp_all; omega))

end Go.Proofs.YtijdghplfhfpaaaDoor.H

/- Scripts: a test that is not in form: kind group S. -/
namespace Go.Proofs.YtijdghplfhfpaaaDoor.H
open Go.RowKit Go.Proofs.YtijdghplfhfpaaaDoorW.PrintWords Go.Proofs.YtijdghplfhfpaaaDoorW.PrintLast Go.Proofs.YtijdghplfhfpaaaDoor.U
set_option linter.unusedVariables false
set_option linter.unusedSimpArgs false
set_option maxHeartbeats 4000000 in
set_option maxRecDepth 100000 in
theorem chk_S (n : Nat) (A1 : Option Addr) (c1 : Nat) (A2 : Option Addr) (c2 : Nat) (A3 : Option Addr) (c3 : Nat) (kd mt pt : Int) (nm ks : List ByteArray) (ov : Bool) (lm : Int) (ts : List (TestN n)) (dp : Int) (w : World) (h0 : 0 ≤ dp) (h6 : dp ≤ 6) (k1 : 10 ≤ kd) (k2 : kd ≤ 10) (hf : ¬ formT (⟨kd, mt, pt, nm, ks, ov, lm, ts⟩ : TestF (TestN n))) : Calls Tryd.prog 159 #[.agg #[.int .i64 kd, .int .i64 mt, .int .i64 pt, .slice A1 nm.length c1, .slice A2 ks.length c2, .bool ov, .int .i64 lm, .slice A3 ts.length c3], .int .i64 dp] w (fun e w' => e = .returned (.int .i64 3) ∧ Below w.heap.size w w') := by
  have hf2 : ¬ (nm.length = 0 ∧ ks.length = 0 ∧ mt = 0 ∧ pt = 0 ∧ 0 ≤ lm ∧ lm ≤ 2147483647 ∧ ts.length = 0) := by
    intro h
    apply hf
    obtain ⟨h1, h2, h3, h4, h5, h6, h7⟩ := h
    simp only [formT]
    rw [if_neg (by omega), if_neg (by omega), if_neg (by omega), if_pos (by omega), if_neg (by omega), if_neg (by omega)]
    exact ⟨h1, ⟨h2, h3⟩, h4, ⟨h5, h6⟩, h7⟩
  clear hf
  replace hf2 := Lib.hid hf2
  have e1 : ¬ kd < 1 := by omega
  have e2 : ¬ 10 < kd := by omega
  have e3 : ¬ 6 < dp := by omega
  have e4 : ¬ kd < 3 := by omega
  have e5 : 5 < kd := by omega
  have b3 : (kd == 3) = false := by rw [beq_eq_false_iff_ne]; omega
  have b4 : (kd == 4) = false := by rw [beq_eq_false_iff_ne]; omega
  have b5 : (kd == 5) = false := by rw [beq_eq_false_iff_ne]; omega
  have b6 : (kd == 6) = false := by rw [beq_eq_false_iff_ne]; omega
  have b7 : (kd == 7) = false := by rw [beq_eq_false_iff_ne]; omega
  have b8 : (kd == 8) = false := by rw [beq_eq_false_iff_ne]; omega
  have b9 : (kd == 9) = false := by rw [beq_eq_false_iff_ne]; omega
  have b10 : (kd == 10) = true := by rw [beq_iff_eq]; omega
  have nk3 : (kd != 3) = true := by rw [bne_iff_ne]; omega
  have nk6 : (kd != 6) = true := by rw [bne_iff_ne]; omega
  have hP : Blk (w.alloc (.cells #[.int .i64 kd, .int .i64 mt, .int .i64 pt, .slice A1 nm.length c1, .slice A2 ks.length c2, .bool ov, .int .i64 lm, .slice A3 ts.length c3] 107)) w.heap.size [.int .i64 kd, .int .i64 mt, .int .i64 pt, .slice A1 nm.length c1, .slice A2 ks.length c2, .bool ov, .int .i64 lm, .slice A3 ts.length c3] := Blk.made w _ _
  have p0 := hP.at 0 _ rfl
  have p1 := hP.at 1 _ rfl
  have p2 := hP.at 2 _ rfl
  have p3 := hP.at 3 _ rfl
  have p4 := hP.at 4 _ rfl
  have p5 := hP.at 5 _ rfl
  have p6 := hP.at 6 _ rfl
  have p7 := hP.at 7 _ rfl
  go_enter Tryd.func159, Tryd.ntmps159
  go_wp2_with fail
  all_goals first | (first | (go_ret; exact ⟨rfl, (by repeat (first | exact Below.refl _ _ | apply below_alloc | apply pw_below_drewN | apply below_drew1 | (refine Below.setCell ?_ (by first | (simp; done) | (simp; omega) | omega) _) ))⟩) | (exfalso; have h9 := hf2.out; clear hf2 hP p0 p1 p2 p3 p4 p5 p6 p7; simp_all; done) | (exfalso; have h9 := hf2.out; clear hf2 hP p0 p1 p2 p3 p4 p5 p6 p7; simp_all; omega)) | (go_region; all_goals go_wp2_with fail; all_goals (first | (go_ret; exact ⟨rfl, (by repeat (first | exact Below.refl _ _ | apply below_alloc | apply pw_below_drewN | apply below_drew1 | (refine Below.setCell ?_ (by first | (simp; done) | (simp; omega) | omega) _) ))⟩) | (exfalso; have h9 := hf2.out; clear hf2 hP p0 p1 p2 p3 p4 p5 p6 p7; simp_all; done) | (exfalso; have h9 := hf2.out; clear hf2 hP p0 p1 p2 p3 p4 p5 p6 p7; simp_all; omega)))

end Go.Proofs.YtijdghplfhfpaaaDoor.H

/- Scripts: a test that is in form: kind group A. -/
namespace Go.Proofs.YtijdghplfhfpaaaDoor.H
open Go.RowKit Go.Proofs.YtijdghplfhfpaaaDoorW.PrintWords Go.Proofs.YtijdghplfhfpaaaDoorW.PrintLast Go.Proofs.YtijdghplfhfpaaaDoor.U
set_option linter.unusedVariables false
set_option linter.unusedSimpArgs false
set_option maxHeartbeats 2000000 in
set_option maxRecDepth 100000 in
theorem chk_okA (n : Nat) (IH : ChT n) (A1 : Option Addr) (c1 : Nat) (A2 : Option Addr) (c2 : Nat) (A3 : Option Addr) (c3 : Nat) (kd mt pt : Int) (nm ks : List ByteArray) (ov : Bool) (lm : Int) (ts : List (TestN n)) (dp : Int) (w : World) (h0 : 0 ≤ dp) (h6 : dp ≤ 6) (hr : (kTest n).C w A3 ts.length ts) (k1 : 1 ≤ kd) (k2 : kd ≤ 2) (hf : formT (⟨kd, mt, pt, nm, ks, ov, lm, ts⟩ : TestF (TestN n))) : Calls Tryd.prog 159 #[.agg #[.int .i64 kd, .int .i64 mt, .int .i64 pt, .slice A1 nm.length c1, .slice A2 ks.length c2, .bool ov, .int .i64 lm, .slice A3 ts.length c3], .int .i64 dp] w (fun e w' => e = .returned (.int .i64 (errs (fun x => checkT n x (dp + 1)) ts)) ∧ Below w.heap.size w w') := by
  have hf2 : nm.length = 0 ∧ ks.length = 0 ∧ mt = 0 ∧ pt = 0 ∧ ov = false ∧ lm = 0 ∧ ts.length = 0 := by
    simp only [formT] at hf
    rw [if_neg (by omega), if_neg (by omega), if_neg (by omega), if_neg (by omega), if_neg (by omega), if_neg (by omega)] at hf
    obtain ⟨h1, ⟨h2, h3⟩, h4, ⟨h5, h6⟩, h7⟩ := hf
    exact ⟨h1, h2, h3, h4, h5, h6, h7⟩
  clear hf
  obtain ⟨h1, h2, h3, h4, h5, h6, h7⟩ := hf2
  have e1 : ¬ kd < 1 := by omega
  have e2 : ¬ 10 < kd := by omega
  have e3 : ¬ 6 < dp := by omega
  have e4 : kd < 3 := by omega
  have e5 : ¬ 5 < kd := by omega
  have b3 : (kd == 3) = false := by rw [beq_eq_false_iff_ne]; omega
  have b4 : (kd == 4) = false := by rw [beq_eq_false_iff_ne]; omega
  have b5 : (kd == 5) = false := by rw [beq_eq_false_iff_ne]; omega
  have b6 : (kd == 6) = false := by rw [beq_eq_false_iff_ne]; omega
  have b7 : (kd == 7) = false := by rw [beq_eq_false_iff_ne]; omega
  have b8 : (kd == 8) = false := by rw [beq_eq_false_iff_ne]; omega
  have b9 : (kd == 9) = false := by rw [beq_eq_false_iff_ne]; omega
  have b10 : (kd == 10) = false := by rw [beq_eq_false_iff_ne]; omega
  have nk3 : (kd != 3) = true := by rw [bne_iff_ne]; omega
  have nk6 : (kd != 6) = true := by rw [bne_iff_ne]; omega
  have hP : Blk (w.alloc (.cells #[.int .i64 kd, .int .i64 mt, .int .i64 pt, .slice A1 nm.length c1, .slice A2 ks.length c2, .bool ov, .int .i64 lm, .slice A3 ts.length c3] 107)) w.heap.size [.int .i64 kd, .int .i64 mt, .int .i64 pt, .slice A1 nm.length c1, .slice A2 ks.length c2, .bool ov, .int .i64 lm, .slice A3 ts.length c3] := Blk.made w _ _
  have p0 := hP.at 0 _ rfl
  have p1 := hP.at 1 _ rfl
  have p2 := hP.at 2 _ rfl
  have p3 := hP.at 3 _ rfl
  have p4 := hP.at 4 _ rfl
  have p5 := hP.at 5 _ rfl
  have p6 := hP.at 6 _ rfl
  have p7 := hP.at 7 _ rfl
  obtain rfl := List.length_eq_zero_iff.mp h1
  obtain rfl := List.length_eq_zero_iff.mp h2
  subst h3
  subst h4
  subst h5
  subst h6
  have j3 : ((ts.length : Int) == 0) = true := by rw [beq_iff_eq]; omega
  have h63 := hr.2.1
  replace hr := Lib.hid hr
  replace IH := Lib.hid IH
  generalize hR : errs (fun x => checkT n x (dp + 1)) ts = R
  replace hR : errs (fun x => checkT n x (dp + 1)) (ts.drop 0) = R := hR
  replace hR := Lib.hid hR
  go_enter Tryd.func159, Tryd.ntmps159
  go_wp2_with fail
  clear hP p0 p1 p2 p3 p4 p5 p6 p7
  replace hR := hR.out
  go_loopw [183] (fun i wr => ∃ k : Nat, k ≤ ts.length ∧ i = .int .i64 k ∧ errs (fun x => checkT n x (dp + 1)) (ts.drop k) = R ∧ Below w.heap.size w wr) (fun i _ => ts.length - (intOf i).toNat)
  case atStart => exact ⟨0, Nat.zero_le _, rfl, hR, (by repeat (first | exact Below.refl _ _ | apply below_alloc | apply pw_below_drewN | apply below_drew1 | (refine Below.setCell ?_ (by first | (simp; done) | (simp; omega) | omega) _) ))⟩
  case round =>
    clear hR
    obtain ⟨k, hk, rfl, hR, hB⟩ := hrel
    by_cases hlt : k < ts.length
    · exfalso; omega
    · obtain rfl : k = ts.length := by omega
      rw [errs_end] at hR
      subst hR
      have i1 : ¬ (ts.length : Int) < (ts.length : Int) := by omega
      go_wp2_with fail
      go_ret
      exact ⟨rfl, hB⟩
end Go.Proofs.YtijdghplfhfpaaaDoor.H

/- Scripts: a test that is in form: kind group N. -/
namespace Go.Proofs.YtijdghplfhfpaaaDoor.H
open Go.RowKit Go.Proofs.YtijdghplfhfpaaaDoorW.PrintWords Go.Proofs.YtijdghplfhfpaaaDoorW.PrintLast Go.Proofs.YtijdghplfhfpaaaDoor.U
set_option linter.unusedVariables false
set_option linter.unusedSimpArgs false
set_option maxHeartbeats 2000000 in
set_option maxRecDepth 100000 in
theorem chk_okN (n : Nat) (IH : ChT n) (A1 : Option Addr) (c1 : Nat) (A2 : Option Addr) (c2 : Nat) (A3 : Option Addr) (c3 : Nat) (kd mt pt : Int) (nm ks : List ByteArray) (ov : Bool) (lm : Int) (ts : List (TestN n)) (dp : Int) (w : World) (h0 : 0 ≤ dp) (h6 : dp ≤ 6) (hr : (kTest n).C w A3 ts.length ts) (k1 : 3 ≤ kd) (k2 : kd ≤ 3) (hf : formT (⟨kd, mt, pt, nm, ks, ov, lm, ts⟩ : TestF (TestN n))) : Calls Tryd.prog 159 #[.agg #[.int .i64 kd, .int .i64 mt, .int .i64 pt, .slice A1 nm.length c1, .slice A2 ks.length c2, .bool ov, .int .i64 lm, .slice A3 ts.length c3], .int .i64 dp] w (fun e w' => e = .returned (.int .i64 (errs (fun x => checkT n x (dp + 1)) ts)) ∧ Below w.heap.size w w') := by
  have hf2 : nm.length = 0 ∧ ks.length = 0 ∧ mt = 0 ∧ pt = 0 ∧ ov = false ∧ lm = 0 ∧ ts.length = 1 := by
    simp only [formT] at hf
    rw [if_neg (by omega), if_neg (by omega), if_neg (by omega), if_neg (by omega), if_pos (by omega)] at hf
    obtain ⟨h1, ⟨h2, h3⟩, h4, ⟨h5, h6⟩, h7⟩ := hf
    exact ⟨h1, h2, h3, h4, h5, h6, h7⟩
  clear hf
  obtain ⟨h1, h2, h3, h4, h5, h6, h7⟩ := hf2
  have e1 : ¬ kd < 1 := by omega
  have e2 : ¬ 10 < kd := by omega
  have e3 : ¬ 6 < dp := by omega
  have e4 : ¬ kd < 3 := by omega
  have e5 : ¬ 5 < kd := by omega
  have b3 : (kd == 3) = true := by rw [beq_iff_eq]; omega
  have b4 : (kd == 4) = false := by rw [beq_eq_false_iff_ne]; omega
  have b5 : (kd == 5) = false := by rw [beq_eq_false_iff_ne]; omega
  have b6 : (kd == 6) = false := by rw [beq_eq_false_iff_ne]; omega
  have b7 : (kd == 7) = false := by rw [beq_eq_false_iff_ne]; omega
  have b8 : (kd == 8) = false := by rw [beq_eq_false_iff_ne]; omega
  have b9 : (kd == 9) = false := by rw [beq_eq_false_iff_ne]; omega
  have b10 : (kd == 10) = false := by rw [beq_eq_false_iff_ne]; omega
  have nk3 : (kd != 3) = false := by rw [bne_eq_false_iff_eq]; omega
  have nk6 : (kd != 6) = true := by rw [bne_iff_ne]; omega
  have hP : Blk (w.alloc (.cells #[.int .i64 kd, .int .i64 mt, .int .i64 pt, .slice A1 nm.length c1, .slice A2 ks.length c2, .bool ov, .int .i64 lm, .slice A3 ts.length c3] 107)) w.heap.size [.int .i64 kd, .int .i64 mt, .int .i64 pt, .slice A1 nm.length c1, .slice A2 ks.length c2, .bool ov, .int .i64 lm, .slice A3 ts.length c3] := Blk.made w _ _
  have p0 := hP.at 0 _ rfl
  have p1 := hP.at 1 _ rfl
  have p2 := hP.at 2 _ rfl
  have p3 := hP.at 3 _ rfl
  have p4 := hP.at 4 _ rfl
  have p5 := hP.at 5 _ rfl
  have p6 := hP.at 6 _ rfl
  have p7 := hP.at 7 _ rfl
  obtain rfl := List.length_eq_zero_iff.mp h1
  obtain rfl := List.length_eq_zero_iff.mp h2
  subst h3
  subst h4
  subst h5
  subst h6
  have j3 : ((ts.length : Int) == 1) = true := by rw [beq_iff_eq]; omega
  have h63 := hr.2.1
  replace hr := Lib.hid hr
  replace IH := Lib.hid IH
  generalize hR : errs (fun x => checkT n x (dp + 1)) ts = R
  replace hR : errs (fun x => checkT n x (dp + 1)) (ts.drop 0) = R := hR
  replace hR := Lib.hid hR
  go_enter Tryd.func159, Tryd.ntmps159
  go_wp2_with fail
  clear hP p0 p1 p2 p3 p4 p5 p6 p7
  replace hR := hR.out
  go_loopw [183] (fun i wr => ∃ k : Nat, k ≤ ts.length ∧ i = .int .i64 k ∧ errs (fun x => checkT n x (dp + 1)) (ts.drop k) = R ∧ Below w.heap.size w wr) (fun i _ => ts.length - (intOf i).toNat)
  case atStart => exact ⟨0, Nat.zero_le _, rfl, hR, (by repeat (first | exact Below.refl _ _ | apply below_alloc | apply pw_below_drewN | apply below_drew1 | (refine Below.setCell ?_ (by first | (simp; done) | (simp; omega) | omega) _) ))⟩
  case round =>
    clear hR
    obtain ⟨k, hk, rfl, hR, hB⟩ := hrel
    by_cases hlt : k < ts.length
    · obtain ⟨ad, cx, e1', hKx, hx0, hxj⟩ := elem_at (Kd.C_below hr.out hB) (kTest_sz n) k hlt
      subst e1'
      obtain ⟨x0, x1, x2, X3, l3, C3, X4, l4, C4, x5, x6, X7, l7, C7, rfl⟩ := testN_K hKx
      have q0 := hx0 _ rfl; have q1 := hxj 1 _ (by decide) rfl; have q2 := hxj 2 _ (by decide) rfl; have q3 := hxj 3 _ (by decide) rfl; have q4 := hxj 4 _ (by decide) rfl; have q5 := hxj 5 _ (by decide) rfl; have q6 := hxj 6 _ (by decide) rfl; have q7 := hxj 7 _ (by decide) rfl
      clear hx0 hxj
      have hbad := fun h => errs_bad (f := fun x => checkT n x (dp + 1)) hlt h
      have hgood := fun h => errs_good (f := fun x => checkT n x (dp + 1)) hlt h
      rw [hR] at hbad hgood
      clear hR
      have HX := Lib.hid (fun W (h : Below wr.heap.size wr W) => IH.out ts[k] _ (dp + 1) W ((kTest n).K_below h hKx) (by omega) (by omega))
      generalize checkT n ts[k] (dp + 1) = v at *
      replace hbad := Lib.hid hbad
      replace hgood := Lib.hid hgood
      clear hKx
      have i0 : (0 : Int) ≤ (k : Int) := by omega
      have i1 : (k : Int) < (ts.length : Int) := by omega
      have hO := Blk.made wr #[.int .i64 x0, .int .i64 x1, .int .i64 x2, .slice X3 l3 C3, .slice X4 l4 C4, .bool x5, .int .i64 x6, .slice X7 l7 C7] 107
      have o0 := hO.at 0 _ rfl
      have o1 := hO.at 1 _ rfl
      have o2 := hO.at 2 _ rfl
      have o3 := hO.at 3 _ rfl
      have o4 := hO.at 4 _ rfl
      have o5 := hO.at 5 _ rfl
      have o6 := hO.at 6 _ rfl
      have o7 := hO.at 7 _ rfl
      by_cases hv : v = 0
      · subst hv
        go_wp2_with fail
        refine (HX.out _ ((Below.refl _ _).alloc (Nat.le_refl _) _)).mono ?_
        rintro e w5 ⟨rfl, hb5⟩
        have hB5 : Below w.heap.size w w5 := (hB.alloc hB.size _).trans (hb5.mono (hB.alloc hB.size _).size)
        go_wp2_with fail
        go_roundw
        case rel => exact ⟨k + 1, hlt, by go_num, (hgood.out (by trivial)).symm, hB5⟩
        case measure => simp [intOf]; omega
      · have hvb : (v != 0) = true := bne_iff_ne.mpr hv
        have hRv := Lib.hid (hbad.out hv)
        clear hv
        go_wp2_with fail
        refine (HX.out _ ((Below.refl _ _).alloc (Nat.le_refl _) _)).mono ?_
        rintro e w5 ⟨rfl, hb5⟩
        have hB5 : Below w.heap.size w w5 := (hB.alloc hB.size _).trans (hb5.mono (hB.alloc hB.size _).size)
        go_wp2_with fail
        go_ret
        exact ⟨by rw [hRv.out]; rfl, hB5⟩
    · obtain rfl : k = ts.length := by omega
      rw [errs_end] at hR
      subst hR
      have i1 : ¬ (ts.length : Int) < (ts.length : Int) := by omega
      go_wp2_with fail
      go_ret
      exact ⟨rfl, hB⟩
end Go.Proofs.YtijdghplfhfpaaaDoor.H

/- Scripts: a test that is in form: kind group L4. -/
namespace Go.Proofs.YtijdghplfhfpaaaDoor.H
open Go.RowKit Go.Proofs.YtijdghplfhfpaaaDoorW.PrintWords Go.Proofs.YtijdghplfhfpaaaDoorW.PrintLast Go.Proofs.YtijdghplfhfpaaaDoor.U
set_option linter.unusedVariables false
set_option linter.unusedSimpArgs false
set_option maxHeartbeats 2000000 in
set_option maxRecDepth 100000 in
theorem chk_okL4 (n : Nat) (IH : ChT n) (A1 : Option Addr) (c1 : Nat) (A2 : Option Addr) (c2 : Nat) (A3 : Option Addr) (c3 : Nat) (kd mt pt : Int) (nm ks : List ByteArray) (ov : Bool) (lm : Int) (ts : List (TestN n)) (dp : Int) (w : World) (h0 : 0 ≤ dp) (h6 : dp ≤ 6) (hr : (kTest n).C w A3 ts.length ts) (k1 : 4 ≤ kd) (k2 : kd ≤ 4) (hf : formT (⟨kd, mt, pt, nm, ks, ov, lm, ts⟩ : TestF (TestN n))) : Calls Tryd.prog 159 #[.agg #[.int .i64 kd, .int .i64 mt, .int .i64 pt, .slice A1 nm.length c1, .slice A2 ks.length c2, .bool ov, .int .i64 lm, .slice A3 ts.length c3], .int .i64 dp] w (fun e w' => e = .returned (.int .i64 (errs (fun x => checkT n x (dp + 1)) ts)) ∧ Below w.heap.size w w') := by
  have hf2 : nm.length = 0 ∧ ks.length = 0 ∧ mt = 0 ∧ pt = 0 ∧ ov = false ∧ lm = 0 ∧ 0 < ts.length := by
    simp only [formT] at hf
    rw [if_neg (by omega), if_neg (by omega), if_neg (by omega), if_neg (by omega), if_neg (by omega), if_pos (by omega)] at hf
    obtain ⟨h1, ⟨h2, h3⟩, h4, ⟨h5, h6⟩, h7⟩ := hf
    exact ⟨h1, h2, h3, h4, h5, h6, h7⟩
  clear hf
  obtain ⟨h1, h2, h3, h4, h5, h6, h7⟩ := hf2
  have e1 : ¬ kd < 1 := by omega
  have e2 : ¬ 10 < kd := by omega
  have e3 : ¬ 6 < dp := by omega
  have e4 : ¬ kd < 3 := by omega
  have e5 : ¬ 5 < kd := by omega
  have b3 : (kd == 3) = false := by rw [beq_eq_false_iff_ne]; omega
  have b4 : (kd == 4) = true := by rw [beq_iff_eq]; omega
  have b5 : (kd == 5) = false := by rw [beq_eq_false_iff_ne]; omega
  have b6 : (kd == 6) = false := by rw [beq_eq_false_iff_ne]; omega
  have b7 : (kd == 7) = false := by rw [beq_eq_false_iff_ne]; omega
  have b8 : (kd == 8) = false := by rw [beq_eq_false_iff_ne]; omega
  have b9 : (kd == 9) = false := by rw [beq_eq_false_iff_ne]; omega
  have b10 : (kd == 10) = false := by rw [beq_eq_false_iff_ne]; omega
  have nk3 : (kd != 3) = true := by rw [bne_iff_ne]; omega
  have nk6 : (kd != 6) = true := by rw [bne_iff_ne]; omega
  have hP : Blk (w.alloc (.cells #[.int .i64 kd, .int .i64 mt, .int .i64 pt, .slice A1 nm.length c1, .slice A2 ks.length c2, .bool ov, .int .i64 lm, .slice A3 ts.length c3] 107)) w.heap.size [.int .i64 kd, .int .i64 mt, .int .i64 pt, .slice A1 nm.length c1, .slice A2 ks.length c2, .bool ov, .int .i64 lm, .slice A3 ts.length c3] := Blk.made w _ _
  have p0 := hP.at 0 _ rfl
  have p1 := hP.at 1 _ rfl
  have p2 := hP.at 2 _ rfl
  have p3 := hP.at 3 _ rfl
  have p4 := hP.at 4 _ rfl
  have p5 := hP.at 5 _ rfl
  have p6 := hP.at 6 _ rfl
  have p7 := hP.at 7 _ rfl
  obtain rfl := List.length_eq_zero_iff.mp h1
  obtain rfl := List.length_eq_zero_iff.mp h2
  subst h3
  subst h4
  subst h5
  subst h6
  have j3 : (0 : Int) < (ts.length : Int) := by omega
  by_cases hq : ts.length = 1
  · have j4 : ((ts.length : Int) == 1) = true := by rw [beq_iff_eq]; omega
    clear hq
    skip
    have h63 := hr.2.1
    replace hr := Lib.hid hr
    replace IH := Lib.hid IH
    generalize hR : errs (fun x => checkT n x (dp + 1)) ts = R
    replace hR : errs (fun x => checkT n x (dp + 1)) (ts.drop 0) = R := hR
    replace hR := Lib.hid hR
    go_enter Tryd.func159, Tryd.ntmps159
    go_wp2_with fail
    clear hP p0 p1 p2 p3 p4 p5 p6 p7
    replace hR := hR.out
    go_loopw [183] (fun i wr => ∃ k : Nat, k ≤ ts.length ∧ i = .int .i64 k ∧ errs (fun x => checkT n x (dp + 1)) (ts.drop k) = R ∧ Below w.heap.size w wr) (fun i _ => ts.length - (intOf i).toNat)
    case atStart => exact ⟨0, Nat.zero_le _, rfl, hR, (by repeat (first | exact Below.refl _ _ | apply below_alloc | apply pw_below_drewN | apply below_drew1 | (refine Below.setCell ?_ (by first | (simp; done) | (simp; omega) | omega) _) ))⟩
    case round =>
      clear hR
      obtain ⟨k, hk, rfl, hR, hB⟩ := hrel
      by_cases hlt : k < ts.length
      · obtain ⟨ad, cx, e1', hKx, hx0, hxj⟩ := elem_at (Kd.C_below hr.out hB) (kTest_sz n) k hlt
        subst e1'
        obtain ⟨x0, x1, x2, X3, l3, C3, X4, l4, C4, x5, x6, X7, l7, C7, rfl⟩ := testN_K hKx
        have q0 := hx0 _ rfl; have q1 := hxj 1 _ (by decide) rfl; have q2 := hxj 2 _ (by decide) rfl; have q3 := hxj 3 _ (by decide) rfl; have q4 := hxj 4 _ (by decide) rfl; have q5 := hxj 5 _ (by decide) rfl; have q6 := hxj 6 _ (by decide) rfl; have q7 := hxj 7 _ (by decide) rfl
        clear hx0 hxj
        have hbad := fun h => errs_bad (f := fun x => checkT n x (dp + 1)) hlt h
        have hgood := fun h => errs_good (f := fun x => checkT n x (dp + 1)) hlt h
        rw [hR] at hbad hgood
        clear hR
        have HX := Lib.hid (fun W (h : Below wr.heap.size wr W) => IH.out ts[k] _ (dp + 1) W ((kTest n).K_below h hKx) (by omega) (by omega))
        generalize checkT n ts[k] (dp + 1) = v at *
        replace hbad := Lib.hid hbad
        replace hgood := Lib.hid hgood
        clear hKx
        have i0 : (0 : Int) ≤ (k : Int) := by omega
        have i1 : (k : Int) < (ts.length : Int) := by omega
        have hO := Blk.made wr #[.int .i64 x0, .int .i64 x1, .int .i64 x2, .slice X3 l3 C3, .slice X4 l4 C4, .bool x5, .int .i64 x6, .slice X7 l7 C7] 107
        have o0 := hO.at 0 _ rfl
        have o1 := hO.at 1 _ rfl
        have o2 := hO.at 2 _ rfl
        have o3 := hO.at 3 _ rfl
        have o4 := hO.at 4 _ rfl
        have o5 := hO.at 5 _ rfl
        have o6 := hO.at 6 _ rfl
        have o7 := hO.at 7 _ rfl
        by_cases hv : v = 0
        · subst hv
          go_wp2_with fail
          refine (HX.out _ ((Below.refl _ _).alloc (Nat.le_refl _) _)).mono ?_
          rintro e w5 ⟨rfl, hb5⟩
          have hB5 : Below w.heap.size w w5 := (hB.alloc hB.size _).trans (hb5.mono (hB.alloc hB.size _).size)
          go_wp2_with fail
          go_roundw
          case rel => exact ⟨k + 1, hlt, by go_num, (hgood.out (by trivial)).symm, hB5⟩
          case measure => simp [intOf]; omega
        · have hvb : (v != 0) = true := bne_iff_ne.mpr hv
          have hRv := Lib.hid (hbad.out hv)
          clear hv
          go_wp2_with fail
          refine (HX.out _ ((Below.refl _ _).alloc (Nat.le_refl _) _)).mono ?_
          rintro e w5 ⟨rfl, hb5⟩
          have hB5 : Below w.heap.size w w5 := (hB.alloc hB.size _).trans (hb5.mono (hB.alloc hB.size _).size)
          go_wp2_with fail
          go_ret
          exact ⟨by rw [hRv.out]; rfl, hB5⟩
      · obtain rfl : k = ts.length := by omega
        rw [errs_end] at hR
        subst hR
        have i1 : ¬ (ts.length : Int) < (ts.length : Int) := by omega
        go_wp2_with fail
        go_ret
        exact ⟨rfl, hB⟩
  · have j4 : ((ts.length : Int) == 1) = false := by rw [beq_eq_false_iff_ne]; omega
    clear hq
    skip
    have h63 := hr.2.1
    replace hr := Lib.hid hr
    replace IH := Lib.hid IH
    generalize hR : errs (fun x => checkT n x (dp + 1)) ts = R
    replace hR : errs (fun x => checkT n x (dp + 1)) (ts.drop 0) = R := hR
    replace hR := Lib.hid hR
    go_enter Tryd.func159, Tryd.ntmps159
    go_wp2_with fail
    clear hP p0 p1 p2 p3 p4 p5 p6 p7
    replace hR := hR.out
    go_loopw [183] (fun i wr => ∃ k : Nat, k ≤ ts.length ∧ i = .int .i64 k ∧ errs (fun x => checkT n x (dp + 1)) (ts.drop k) = R ∧ Below w.heap.size w wr) (fun i _ => ts.length - (intOf i).toNat)
    case atStart => exact ⟨0, Nat.zero_le _, rfl, hR, (by repeat (first | exact Below.refl _ _ | apply below_alloc | apply pw_below_drewN | apply below_drew1 | (refine Below.setCell ?_ (by first | (simp; done) | (simp; omega) | omega) _) ))⟩
    case round =>
      clear hR
      obtain ⟨k, hk, rfl, hR, hB⟩ := hrel
      by_cases hlt : k < ts.length
      · obtain ⟨ad, cx, e1', hKx, hx0, hxj⟩ := elem_at (Kd.C_below hr.out hB) (kTest_sz n) k hlt
        subst e1'
        obtain ⟨x0, x1, x2, X3, l3, C3, X4, l4, C4, x5, x6, X7, l7, C7, rfl⟩ := testN_K hKx
        have q0 := hx0 _ rfl; have q1 := hxj 1 _ (by decide) rfl; have q2 := hxj 2 _ (by decide) rfl; have q3 := hxj 3 _ (by decide) rfl; have q4 := hxj 4 _ (by decide) rfl; have q5 := hxj 5 _ (by decide) rfl; have q6 := hxj 6 _ (by decide) rfl; have q7 := hxj 7 _ (by decide) rfl
        clear hx0 hxj
        have hbad := fun h => errs_bad (f := fun x => checkT n x (dp + 1)) hlt h
        have hgood := fun h => errs_good (f := fun x => checkT n x (dp + 1)) hlt h
        rw [hR] at hbad hgood
        clear hR
        have HX := Lib.hid (fun W (h : Below wr.heap.size wr W) => IH.out ts[k] _ (dp + 1) W ((kTest n).K_below h hKx) (by omega) (by omega))
        generalize checkT n ts[k] (dp + 1) = v at *
        replace hbad := Lib.hid hbad
        replace hgood := Lib.hid hgood
        clear hKx
        have i0 : (0 : Int) ≤ (k : Int) := by omega
        have i1 : (k : Int) < (ts.length : Int) := by omega
        have hO := Blk.made wr #[.int .i64 x0, .int .i64 x1, .int .i64 x2, .slice X3 l3 C3, .slice X4 l4 C4, .bool x5, .int .i64 x6, .slice X7 l7 C7] 107
        have o0 := hO.at 0 _ rfl
        have o1 := hO.at 1 _ rfl
        have o2 := hO.at 2 _ rfl
        have o3 := hO.at 3 _ rfl
        have o4 := hO.at 4 _ rfl
        have o5 := hO.at 5 _ rfl
        have o6 := hO.at 6 _ rfl
        have o7 := hO.at 7 _ rfl
        by_cases hv : v = 0
        · subst hv
          go_wp2_with fail
          refine (HX.out _ ((Below.refl _ _).alloc (Nat.le_refl _) _)).mono ?_
          rintro e w5 ⟨rfl, hb5⟩
          have hB5 : Below w.heap.size w w5 := (hB.alloc hB.size _).trans (hb5.mono (hB.alloc hB.size _).size)
          go_wp2_with fail
          go_roundw
          case rel => exact ⟨k + 1, hlt, by go_num, (hgood.out (by trivial)).symm, hB5⟩
          case measure => simp [intOf]; omega
        · have hvb : (v != 0) = true := bne_iff_ne.mpr hv
          have hRv := Lib.hid (hbad.out hv)
          clear hv
          go_wp2_with fail
          refine (HX.out _ ((Below.refl _ _).alloc (Nat.le_refl _) _)).mono ?_
          rintro e w5 ⟨rfl, hb5⟩
          have hB5 : Below w.heap.size w w5 := (hB.alloc hB.size _).trans (hb5.mono (hB.alloc hB.size _).size)
          go_wp2_with fail
          go_ret
          exact ⟨by rw [hRv.out]; rfl, hB5⟩
      · obtain rfl : k = ts.length := by omega
        rw [errs_end] at hR
        subst hR
        have i1 : ¬ (ts.length : Int) < (ts.length : Int) := by omega
        go_wp2_with fail
        go_ret
        exact ⟨rfl, hB⟩
end Go.Proofs.YtijdghplfhfpaaaDoor.H

/- Scripts: a test that is in form: kind group L5. -/
namespace Go.Proofs.YtijdghplfhfpaaaDoor.H
open Go.RowKit Go.Proofs.YtijdghplfhfpaaaDoorW.PrintWords Go.Proofs.YtijdghplfhfpaaaDoorW.PrintLast Go.Proofs.YtijdghplfhfpaaaDoor.U
set_option linter.unusedVariables false
set_option linter.unusedSimpArgs false
set_option maxHeartbeats 2000000 in
set_option maxRecDepth 100000 in
theorem chk_okL5 (n : Nat) (IH : ChT n) (A1 : Option Addr) (c1 : Nat) (A2 : Option Addr) (c2 : Nat) (A3 : Option Addr) (c3 : Nat) (kd mt pt : Int) (nm ks : List ByteArray) (ov : Bool) (lm : Int) (ts : List (TestN n)) (dp : Int) (w : World) (h0 : 0 ≤ dp) (h6 : dp ≤ 6) (hr : (kTest n).C w A3 ts.length ts) (k1 : 5 ≤ kd) (k2 : kd ≤ 5) (hf : formT (⟨kd, mt, pt, nm, ks, ov, lm, ts⟩ : TestF (TestN n))) : Calls Tryd.prog 159 #[.agg #[.int .i64 kd, .int .i64 mt, .int .i64 pt, .slice A1 nm.length c1, .slice A2 ks.length c2, .bool ov, .int .i64 lm, .slice A3 ts.length c3], .int .i64 dp] w (fun e w' => e = .returned (.int .i64 (errs (fun x => checkT n x (dp + 1)) ts)) ∧ Below w.heap.size w w') := by
  have hf2 : nm.length = 0 ∧ ks.length = 0 ∧ mt = 0 ∧ pt = 0 ∧ ov = false ∧ lm = 0 ∧ 0 < ts.length := by
    simp only [formT] at hf
    rw [if_neg (by omega), if_neg (by omega), if_neg (by omega), if_neg (by omega), if_neg (by omega), if_pos (by omega)] at hf
    obtain ⟨h1, ⟨h2, h3⟩, h4, ⟨h5, h6⟩, h7⟩ := hf
    exact ⟨h1, h2, h3, h4, h5, h6, h7⟩
  clear hf
  obtain ⟨h1, h2, h3, h4, h5, h6, h7⟩ := hf2
  have e1 : ¬ kd < 1 := by omega
  have e2 : ¬ 10 < kd := by omega
  have e3 : ¬ 6 < dp := by omega
  have e4 : ¬ kd < 3 := by omega
  have e5 : ¬ 5 < kd := by omega
  have b3 : (kd == 3) = false := by rw [beq_eq_false_iff_ne]; omega
  have b4 : (kd == 4) = false := by rw [beq_eq_false_iff_ne]; omega
  have b5 : (kd == 5) = true := by rw [beq_iff_eq]; omega
  have b6 : (kd == 6) = false := by rw [beq_eq_false_iff_ne]; omega
  have b7 : (kd == 7) = false := by rw [beq_eq_false_iff_ne]; omega
  have b8 : (kd == 8) = false := by rw [beq_eq_false_iff_ne]; omega
  have b9 : (kd == 9) = false := by rw [beq_eq_false_iff_ne]; omega
  have b10 : (kd == 10) = false := by rw [beq_eq_false_iff_ne]; omega
  have nk3 : (kd != 3) = true := by rw [bne_iff_ne]; omega
  have nk6 : (kd != 6) = true := by rw [bne_iff_ne]; omega
  have hP : Blk (w.alloc (.cells #[.int .i64 kd, .int .i64 mt, .int .i64 pt, .slice A1 nm.length c1, .slice A2 ks.length c2, .bool ov, .int .i64 lm, .slice A3 ts.length c3] 107)) w.heap.size [.int .i64 kd, .int .i64 mt, .int .i64 pt, .slice A1 nm.length c1, .slice A2 ks.length c2, .bool ov, .int .i64 lm, .slice A3 ts.length c3] := Blk.made w _ _
  have p0 := hP.at 0 _ rfl
  have p1 := hP.at 1 _ rfl
  have p2 := hP.at 2 _ rfl
  have p3 := hP.at 3 _ rfl
  have p4 := hP.at 4 _ rfl
  have p5 := hP.at 5 _ rfl
  have p6 := hP.at 6 _ rfl
  have p7 := hP.at 7 _ rfl
  obtain rfl := List.length_eq_zero_iff.mp h1
  obtain rfl := List.length_eq_zero_iff.mp h2
  subst h3
  subst h4
  subst h5
  subst h6
  have j3 : (0 : Int) < (ts.length : Int) := by omega
  by_cases hq : ts.length = 1
  · have j4 : ((ts.length : Int) == 1) = true := by rw [beq_iff_eq]; omega
    clear hq
    skip
    have h63 := hr.2.1
    replace hr := Lib.hid hr
    replace IH := Lib.hid IH
    generalize hR : errs (fun x => checkT n x (dp + 1)) ts = R
    replace hR : errs (fun x => checkT n x (dp + 1)) (ts.drop 0) = R := hR
    replace hR := Lib.hid hR
    go_enter Tryd.func159, Tryd.ntmps159
    go_wp2_with fail
    clear hP p0 p1 p2 p3 p4 p5 p6 p7
    replace hR := hR.out
    go_loopw [183] (fun i wr => ∃ k : Nat, k ≤ ts.length ∧ i = .int .i64 k ∧ errs (fun x => checkT n x (dp + 1)) (ts.drop k) = R ∧ Below w.heap.size w wr) (fun i _ => ts.length - (intOf i).toNat)
    case atStart => exact ⟨0, Nat.zero_le _, rfl, hR, (by repeat (first | exact Below.refl _ _ | apply below_alloc | apply pw_below_drewN | apply below_drew1 | (refine Below.setCell ?_ (by first | (simp; done) | (simp; omega) | omega) _) ))⟩
    case round =>
      clear hR
      obtain ⟨k, hk, rfl, hR, hB⟩ := hrel
      by_cases hlt : k < ts.length
      · obtain ⟨ad, cx, e1', hKx, hx0, hxj⟩ := elem_at (Kd.C_below hr.out hB) (kTest_sz n) k hlt
        subst e1'
        obtain ⟨x0, x1, x2, X3, l3, C3, X4, l4, C4, x5, x6, X7, l7, C7, rfl⟩ := testN_K hKx
        have q0 := hx0 _ rfl; have q1 := hxj 1 _ (by decide) rfl; have q2 := hxj 2 _ (by decide) rfl; have q3 := hxj 3 _ (by decide) rfl; have q4 := hxj 4 _ (by decide) rfl; have q5 := hxj 5 _ (by decide) rfl; have q6 := hxj 6 _ (by decide) rfl; have q7 := hxj 7 _ (by decide) rfl
        clear hx0 hxj
        have hbad := fun h => errs_bad (f := fun x => checkT n x (dp + 1)) hlt h
        have hgood := fun h => errs_good (f := fun x => checkT n x (dp + 1)) hlt h
        rw [hR] at hbad hgood
        clear hR
        have HX := Lib.hid (fun W (h : Below wr.heap.size wr W) => IH.out ts[k] _ (dp + 1) W ((kTest n).K_below h hKx) (by omega) (by omega))
        generalize checkT n ts[k] (dp + 1) = v at *
        replace hbad := Lib.hid hbad
        replace hgood := Lib.hid hgood
        clear hKx
        have i0 : (0 : Int) ≤ (k : Int) := by omega
        have i1 : (k : Int) < (ts.length : Int) := by omega
        have hO := Blk.made wr #[.int .i64 x0, .int .i64 x1, .int .i64 x2, .slice X3 l3 C3, .slice X4 l4 C4, .bool x5, .int .i64 x6, .slice X7 l7 C7] 107
        have o0 := hO.at 0 _ rfl
        have o1 := hO.at 1 _ rfl
        have o2 := hO.at 2 _ rfl
        have o3 := hO.at 3 _ rfl
        have o4 := hO.at 4 _ rfl
        have o5 := hO.at 5 _ rfl
        have o6 := hO.at 6 _ rfl
        have o7 := hO.at 7 _ rfl
        by_cases hv : v = 0
        · subst hv
          go_wp2_with fail
          refine (HX.out _ ((Below.refl _ _).alloc (Nat.le_refl _) _)).mono ?_
          rintro e w5 ⟨rfl, hb5⟩
          have hB5 : Below w.heap.size w w5 := (hB.alloc hB.size _).trans (hb5.mono (hB.alloc hB.size _).size)
          go_wp2_with fail
          go_roundw
          case rel => exact ⟨k + 1, hlt, by go_num, (hgood.out (by trivial)).symm, hB5⟩
          case measure => simp [intOf]; omega
        · have hvb : (v != 0) = true := bne_iff_ne.mpr hv
          have hRv := Lib.hid (hbad.out hv)
          clear hv
          go_wp2_with fail
          refine (HX.out _ ((Below.refl _ _).alloc (Nat.le_refl _) _)).mono ?_
          rintro e w5 ⟨rfl, hb5⟩
          have hB5 : Below w.heap.size w w5 := (hB.alloc hB.size _).trans (hb5.mono (hB.alloc hB.size _).size)
          go_wp2_with fail
          go_ret
          exact ⟨by rw [hRv.out]; rfl, hB5⟩
      · obtain rfl : k = ts.length := by omega
        rw [errs_end] at hR
        subst hR
        have i1 : ¬ (ts.length : Int) < (ts.length : Int) := by omega
        go_wp2_with fail
        go_ret
        exact ⟨rfl, hB⟩
  · have j4 : ((ts.length : Int) == 1) = false := by rw [beq_eq_false_iff_ne]; omega
    clear hq
    skip
    have h63 := hr.2.1
    replace hr := Lib.hid hr
    replace IH := Lib.hid IH
    generalize hR : errs (fun x => checkT n x (dp + 1)) ts = R
    replace hR : errs (fun x => checkT n x (dp + 1)) (ts.drop 0) = R := hR
    replace hR := Lib.hid hR
    go_enter Tryd.func159, Tryd.ntmps159
    go_wp2_with fail
    clear hP p0 p1 p2 p3 p4 p5 p6 p7
    replace hR := hR.out
    go_loopw [183] (fun i wr => ∃ k : Nat, k ≤ ts.length ∧ i = .int .i64 k ∧ errs (fun x => checkT n x (dp + 1)) (ts.drop k) = R ∧ Below w.heap.size w wr) (fun i _ => ts.length - (intOf i).toNat)
    case atStart => exact ⟨0, Nat.zero_le _, rfl, hR, (by repeat (first | exact Below.refl _ _ | apply below_alloc | apply pw_below_drewN | apply below_drew1 | (refine Below.setCell ?_ (by first | (simp; done) | (simp; omega) | omega) _) ))⟩
    case round =>
      clear hR
      obtain ⟨k, hk, rfl, hR, hB⟩ := hrel
      by_cases hlt : k < ts.length
      · obtain ⟨ad, cx, e1', hKx, hx0, hxj⟩ := elem_at (Kd.C_below hr.out hB) (kTest_sz n) k hlt
        subst e1'
        obtain ⟨x0, x1, x2, X3, l3, C3, X4, l4, C4, x5, x6, X7, l7, C7, rfl⟩ := testN_K hKx
        have q0 := hx0 _ rfl; have q1 := hxj 1 _ (by decide) rfl; have q2 := hxj 2 _ (by decide) rfl; have q3 := hxj 3 _ (by decide) rfl; have q4 := hxj 4 _ (by decide) rfl; have q5 := hxj 5 _ (by decide) rfl; have q6 := hxj 6 _ (by decide) rfl; have q7 := hxj 7 _ (by decide) rfl
        clear hx0 hxj
        have hbad := fun h => errs_bad (f := fun x => checkT n x (dp + 1)) hlt h
        have hgood := fun h => errs_good (f := fun x => checkT n x (dp + 1)) hlt h
        rw [hR] at hbad hgood
        clear hR
        have HX := Lib.hid (fun W (h : Below wr.heap.size wr W) => IH.out ts[k] _ (dp + 1) W ((kTest n).K_below h hKx) (by omega) (by omega))
        generalize checkT n ts[k] (dp + 1) = v at *
        replace hbad := Lib.hid hbad
        replace hgood := Lib.hid hgood
        clear hKx
        have i0 : (0 : Int) ≤ (k : Int) := by omega
        have i1 : (k : Int) < (ts.length : Int) := by omega
        have hO := Blk.made wr #[.int .i64 x0, .int .i64 x1, .int .i64 x2, .slice X3 l3 C3, .slice X4 l4 C4, .bool x5, .int .i64 x6, .slice X7 l7 C7] 107
        have o0 := hO.at 0 _ rfl
        have o1 := hO.at 1 _ rfl
        have o2 := hO.at 2 _ rfl
        have o3 := hO.at 3 _ rfl
        have o4 := hO.at 4 _ rfl
        have o5 := hO.at 5 _ rfl
        have o6 := hO.at 6 _ rfl
        have o7 := hO.at 7 _ rfl
        by_cases hv : v = 0
        · subst hv
          go_wp2_with fail
          refine (HX.out _ ((Below.refl _ _).alloc (Nat.le_refl _) _)).mono ?_
          rintro e w5 ⟨rfl, hb5⟩
          have hB5 : Below w.heap.size w w5 := (hB.alloc hB.size _).trans (hb5.mono (hB.alloc hB.size _).size)
          go_wp2_with fail
          go_roundw
          case rel => exact ⟨k + 1, hlt, by go_num, (hgood.out (by trivial)).symm, hB5⟩
          case measure => simp [intOf]; omega
        · have hvb : (v != 0) = true := bne_iff_ne.mpr hv
          have hRv := Lib.hid (hbad.out hv)
          clear hv
          go_wp2_with fail
          refine (HX.out _ ((Below.refl _ _).alloc (Nat.le_refl _) _)).mono ?_
          rintro e w5 ⟨rfl, hb5⟩
          have hB5 : Below w.heap.size w w5 := (hB.alloc hB.size _).trans (hb5.mono (hB.alloc hB.size _).size)
          go_wp2_with fail
          go_ret
          exact ⟨by rw [hRv.out]; rfl, hB5⟩
      · obtain rfl : k = ts.length := by omega
        rw [errs_end] at hR
        subst hR
        have i1 : ¬ (ts.length : Int) < (ts.length : Int) := by omega
        go_wp2_with fail
        go_ret
        exact ⟨rfl, hB⟩
end Go.Proofs.YtijdghplfhfpaaaDoor.H

/- Scripts: a test that is in form: kind group H. -/
namespace Go.Proofs.YtijdghplfhfpaaaDoor.H
open Go.RowKit Go.Proofs.YtijdghplfhfpaaaDoorW.PrintWords Go.Proofs.YtijdghplfhfpaaaDoorW.PrintLast Go.Proofs.YtijdghplfhfpaaaDoor.U
set_option linter.unusedVariables false
set_option linter.unusedSimpArgs false
set_option maxHeartbeats 2000000 in
set_option maxRecDepth 100000 in
theorem chk_okH (n : Nat) (IH : ChT n) (A1 : Option Addr) (c1 : Nat) (A2 : Option Addr) (c2 : Nat) (A3 : Option Addr) (c3 : Nat) (kd mt pt : Int) (nm ks : List ByteArray) (ov : Bool) (lm : Int) (ts : List (TestN n)) (dp : Int) (w : World) (h0 : 0 ≤ dp) (h6 : dp ≤ 6) (hr : (kTest n).C w A3 ts.length ts) (k1 : 6 ≤ kd) (k2 : kd ≤ 6) (hf : formT (⟨kd, mt, pt, nm, ks, ov, lm, ts⟩ : TestF (TestN n))) : Calls Tryd.prog 159 #[.agg #[.int .i64 kd, .int .i64 mt, .int .i64 pt, .slice A1 nm.length c1, .slice A2 ks.length c2, .bool ov, .int .i64 lm, .slice A3 ts.length c3], .int .i64 dp] w (fun e w' => e = .returned (.int .i64 (errs (fun x => checkT n x (dp + 1)) ts)) ∧ Below w.heap.size w w') := by
  have hf2 : 0 < nm.length ∧ 0 < ks.length ∧ 1 ≤ mt ∧ mt ≤ 3 ∧ pt = 0 ∧ ov = false ∧ lm = 0 ∧ ts.length = 0 := by
    simp only [formT] at hf
    rw [if_pos (by omega), if_pos (by omega), if_neg (by omega), if_neg (by omega), if_neg (by omega), if_neg (by omega)] at hf
    obtain ⟨h1, ⟨h2, h3, h4⟩, h5, ⟨h6, h7⟩, h8⟩ := hf
    exact ⟨h1, h2, h3, h4, h5, h6, h7, h8⟩
  clear hf
  obtain ⟨h1, h2, h3, h4, h5, h6, h7, h8⟩ := hf2
  have e1 : ¬ kd < 1 := by omega
  have e2 : ¬ 10 < kd := by omega
  have e3 : ¬ 6 < dp := by omega
  have e4 : ¬ kd < 3 := by omega
  have e5 : 5 < kd := by omega
  have b3 : (kd == 3) = false := by rw [beq_eq_false_iff_ne]; omega
  have b4 : (kd == 4) = false := by rw [beq_eq_false_iff_ne]; omega
  have b5 : (kd == 5) = false := by rw [beq_eq_false_iff_ne]; omega
  have b6 : (kd == 6) = true := by rw [beq_iff_eq]; omega
  have b7 : (kd == 7) = false := by rw [beq_eq_false_iff_ne]; omega
  have b8 : (kd == 8) = false := by rw [beq_eq_false_iff_ne]; omega
  have b9 : (kd == 9) = false := by rw [beq_eq_false_iff_ne]; omega
  have b10 : (kd == 10) = false := by rw [beq_eq_false_iff_ne]; omega
  have nk3 : (kd != 3) = true := by rw [bne_iff_ne]; omega
  have nk6 : (kd != 6) = false := by rw [bne_eq_false_iff_eq]; omega
  have hP : Blk (w.alloc (.cells #[.int .i64 kd, .int .i64 mt, .int .i64 pt, .slice A1 nm.length c1, .slice A2 ks.length c2, .bool ov, .int .i64 lm, .slice A3 ts.length c3] 107)) w.heap.size [.int .i64 kd, .int .i64 mt, .int .i64 pt, .slice A1 nm.length c1, .slice A2 ks.length c2, .bool ov, .int .i64 lm, .slice A3 ts.length c3] := Blk.made w _ _
  have p0 := hP.at 0 _ rfl
  have p1 := hP.at 1 _ rfl
  have p2 := hP.at 2 _ rfl
  have p3 := hP.at 3 _ rfl
  have p4 := hP.at 4 _ rfl
  have p5 := hP.at 5 _ rfl
  have p6 := hP.at 6 _ rfl
  have p7 := hP.at 7 _ rfl
  have j1 : (0 : Int) < (nm.length : Int) := by omega
  have j2 : (0 : Int) < (ks.length : Int) := by omega
  subst h5
  subst h6
  subst h7
  have j3 : ((ts.length : Int) == 0) = true := by rw [beq_iff_eq]; omega
  have h63 := hr.2.1
  replace hr := Lib.hid hr
  replace IH := Lib.hid IH
  generalize hR : errs (fun x => checkT n x (dp + 1)) ts = R
  replace hR : errs (fun x => checkT n x (dp + 1)) (ts.drop 0) = R := hR
  replace hR := Lib.hid hR
  go_enter Tryd.func159, Tryd.ntmps159
  go_wp2_with fail
  go_region
  all_goals go_wp2_with fail
  clear hP p0 p1 p2 p3 p4 p5 p6 p7
  replace hR := hR.out
  go_loopw [183] (fun i wr => ∃ k : Nat, k ≤ ts.length ∧ i = .int .i64 k ∧ errs (fun x => checkT n x (dp + 1)) (ts.drop k) = R ∧ Below w.heap.size w wr) (fun i _ => ts.length - (intOf i).toNat)
  case atStart => exact ⟨0, Nat.zero_le _, rfl, hR, (by repeat (first | exact Below.refl _ _ | apply below_alloc | apply pw_below_drewN | apply below_drew1 | (refine Below.setCell ?_ (by first | (simp; done) | (simp; omega) | omega) _) ))⟩
  case round =>
    clear hR
    obtain ⟨k, hk, rfl, hR, hB⟩ := hrel
    by_cases hlt : k < ts.length
    · exfalso; omega
    · obtain rfl : k = ts.length := by omega
      rw [errs_end] at hR
      subst hR
      have i1 : ¬ (ts.length : Int) < (ts.length : Int) := by omega
      go_wp2_with fail
      go_ret
      exact ⟨rfl, hB⟩
end Go.Proofs.YtijdghplfhfpaaaDoor.H

/- Scripts: a test that is in form: kind group D7. -/
namespace Go.Proofs.YtijdghplfhfpaaaDoor.H
open Go.RowKit Go.Proofs.YtijdghplfhfpaaaDoorW.PrintWords Go.Proofs.YtijdghplfhfpaaaDoorW.PrintLast Go.Proofs.YtijdghplfhfpaaaDoor.U
set_option linter.unusedVariables false
set_option linter.unusedSimpArgs false
set_option maxHeartbeats 2000000 in
set_option maxRecDepth 100000 in
theorem chk_okD7 (n : Nat) (IH : ChT n) (A1 : Option Addr) (c1 : Nat) (A2 : Option Addr) (c2 : Nat) (A3 : Option Addr) (c3 : Nat) (kd mt pt : Int) (nm ks : List ByteArray) (ov : Bool) (lm : Int) (ts : List (TestN n)) (dp : Int) (w : World) (h0 : 0 ≤ dp) (h6 : dp ≤ 6) (hr : (kTest n).C w A3 ts.length ts) (k1 : 7 ≤ kd) (k2 : kd ≤ 7) (hf : formT (⟨kd, mt, pt, nm, ks, ov, lm, ts⟩ : TestF (TestN n))) : Calls Tryd.prog 159 #[.agg #[.int .i64 kd, .int .i64 mt, .int .i64 pt, .slice A1 nm.length c1, .slice A2 ks.length c2, .bool ov, .int .i64 lm, .slice A3 ts.length c3], .int .i64 dp] w (fun e w' => e = .returned (.int .i64 (errs (fun x => checkT n x (dp + 1)) ts)) ∧ Below w.heap.size w w') := by
  have hf2 : 0 < nm.length ∧ 0 < ks.length ∧ 1 ≤ mt ∧ mt ≤ 3 ∧ 1 ≤ pt ∧ pt ≤ 3 ∧ ov = false ∧ lm = 0 ∧ ts.length = 0 := by
    simp only [formT] at hf
    rw [if_pos (by omega), if_pos (by omega), if_pos (by omega), if_neg (by omega), if_neg (by omega), if_neg (by omega)] at hf
    obtain ⟨h1, ⟨h2, h3, h4⟩, ⟨h5, h6⟩, ⟨h7, h8⟩, h9⟩ := hf
    exact ⟨h1, h2, h3, h4, h5, h6, h7, h8, h9⟩
  clear hf
  obtain ⟨h1, h2, h3, h4, h5, h6, h7, h8, h9⟩ := hf2
  have e1 : ¬ kd < 1 := by omega
  have e2 : ¬ 10 < kd := by omega
  have e3 : ¬ 6 < dp := by omega
  have e4 : ¬ kd < 3 := by omega
  have e5 : 5 < kd := by omega
  have b3 : (kd == 3) = false := by rw [beq_eq_false_iff_ne]; omega
  have b4 : (kd == 4) = false := by rw [beq_eq_false_iff_ne]; omega
  have b5 : (kd == 5) = false := by rw [beq_eq_false_iff_ne]; omega
  have b6 : (kd == 6) = false := by rw [beq_eq_false_iff_ne]; omega
  have b7 : (kd == 7) = true := by rw [beq_iff_eq]; omega
  have b8 : (kd == 8) = false := by rw [beq_eq_false_iff_ne]; omega
  have b9 : (kd == 9) = false := by rw [beq_eq_false_iff_ne]; omega
  have b10 : (kd == 10) = false := by rw [beq_eq_false_iff_ne]; omega
  have nk3 : (kd != 3) = true := by rw [bne_iff_ne]; omega
  have nk6 : (kd != 6) = true := by rw [bne_iff_ne]; omega
  have hP : Blk (w.alloc (.cells #[.int .i64 kd, .int .i64 mt, .int .i64 pt, .slice A1 nm.length c1, .slice A2 ks.length c2, .bool ov, .int .i64 lm, .slice A3 ts.length c3] 107)) w.heap.size [.int .i64 kd, .int .i64 mt, .int .i64 pt, .slice A1 nm.length c1, .slice A2 ks.length c2, .bool ov, .int .i64 lm, .slice A3 ts.length c3] := Blk.made w _ _
  have p0 := hP.at 0 _ rfl
  have p1 := hP.at 1 _ rfl
  have p2 := hP.at 2 _ rfl
  have p3 := hP.at 3 _ rfl
  have p4 := hP.at 4 _ rfl
  have p5 := hP.at 5 _ rfl
  have p6 := hP.at 6 _ rfl
  have p7 := hP.at 7 _ rfl
  have j1 : (0 : Int) < (nm.length : Int) := by omega
  have j2 : (0 : Int) < (ks.length : Int) := by omega
  subst h7
  subst h8
  have j3 : ((ts.length : Int) == 0) = true := by rw [beq_iff_eq]; omega
  have h63 := hr.2.1
  replace hr := Lib.hid hr
  replace IH := Lib.hid IH
  generalize hR : errs (fun x => checkT n x (dp + 1)) ts = R
  replace hR : errs (fun x => checkT n x (dp + 1)) (ts.drop 0) = R := hR
  replace hR := Lib.hid hR
  go_enter Tryd.func159, Tryd.ntmps159
  go_wp2_with fail
  go_region
  all_goals go_wp2_with fail
  clear hP p0 p1 p2 p3 p4 p5 p6 p7
  replace hR := hR.out
  go_loopw [183] (fun i wr => ∃ k : Nat, k ≤ ts.length ∧ i = .int .i64 k ∧ errs (fun x => checkT n x (dp + 1)) (ts.drop k) = R ∧ Below w.heap.size w wr) (fun i _ => ts.length - (intOf i).toNat)
  case atStart => exact ⟨0, Nat.zero_le _, rfl, hR, (by repeat (first | exact Below.refl _ _ | apply below_alloc | apply pw_below_drewN | apply below_drew1 | (refine Below.setCell ?_ (by first | (simp; done) | (simp; omega) | omega) _) ))⟩
  case round =>
    clear hR
    obtain ⟨k, hk, rfl, hR, hB⟩ := hrel
    by_cases hlt : k < ts.length
    · exfalso; omega
    · obtain rfl : k = ts.length := by omega
      rw [errs_end] at hR
      subst hR
      have i1 : ¬ (ts.length : Int) < (ts.length : Int) := by omega
      go_wp2_with fail
      go_ret
      exact ⟨rfl, hB⟩
end Go.Proofs.YtijdghplfhfpaaaDoor.H

/- Scripts: a test that is in form: kind group D8. -/
namespace Go.Proofs.YtijdghplfhfpaaaDoor.H
open Go.RowKit Go.Proofs.YtijdghplfhfpaaaDoorW.PrintWords Go.Proofs.YtijdghplfhfpaaaDoorW.PrintLast Go.Proofs.YtijdghplfhfpaaaDoor.U
set_option linter.unusedVariables false
set_option linter.unusedSimpArgs false
set_option maxHeartbeats 2000000 in
set_option maxRecDepth 100000 in
theorem chk_okD8 (n : Nat) (IH : ChT n) (A1 : Option Addr) (c1 : Nat) (A2 : Option Addr) (c2 : Nat) (A3 : Option Addr) (c3 : Nat) (kd mt pt : Int) (nm ks : List ByteArray) (ov : Bool) (lm : Int) (ts : List (TestN n)) (dp : Int) (w : World) (h0 : 0 ≤ dp) (h6 : dp ≤ 6) (hr : (kTest n).C w A3 ts.length ts) (k1 : 8 ≤ kd) (k2 : kd ≤ 8) (hf : formT (⟨kd, mt, pt, nm, ks, ov, lm, ts⟩ : TestF (TestN n))) : Calls Tryd.prog 159 #[.agg #[.int .i64 kd, .int .i64 mt, .int .i64 pt, .slice A1 nm.length c1, .slice A2 ks.length c2, .bool ov, .int .i64 lm, .slice A3 ts.length c3], .int .i64 dp] w (fun e w' => e = .returned (.int .i64 (errs (fun x => checkT n x (dp + 1)) ts)) ∧ Below w.heap.size w w') := by
  have hf2 : 0 < nm.length ∧ 0 < ks.length ∧ 1 ≤ mt ∧ mt ≤ 3 ∧ 1 ≤ pt ∧ pt ≤ 3 ∧ ov = false ∧ lm = 0 ∧ ts.length = 0 := by
    simp only [formT] at hf
    rw [if_pos (by omega), if_pos (by omega), if_pos (by omega), if_neg (by omega), if_neg (by omega), if_neg (by omega)] at hf
    obtain ⟨h1, ⟨h2, h3, h4⟩, ⟨h5, h6⟩, ⟨h7, h8⟩, h9⟩ := hf
    exact ⟨h1, h2, h3, h4, h5, h6, h7, h8, h9⟩
  clear hf
  obtain ⟨h1, h2, h3, h4, h5, h6, h7, h8, h9⟩ := hf2
  have e1 : ¬ kd < 1 := by omega
  have e2 : ¬ 10 < kd := by omega
  have e3 : ¬ 6 < dp := by omega
  have e4 : ¬ kd < 3 := by omega
  have e5 : 5 < kd := by omega
  have b3 : (kd == 3) = false := by rw [beq_eq_false_iff_ne]; omega
  have b4 : (kd == 4) = false := by rw [beq_eq_false_iff_ne]; omega
  have b5 : (kd == 5) = false := by rw [beq_eq_false_iff_ne]; omega
  have b6 : (kd == 6) = false := by rw [beq_eq_false_iff_ne]; omega
  have b7 : (kd == 7) = false := by rw [beq_eq_false_iff_ne]; omega
  have b8 : (kd == 8) = true := by rw [beq_iff_eq]; omega
  have b9 : (kd == 9) = false := by rw [beq_eq_false_iff_ne]; omega
  have b10 : (kd == 10) = false := by rw [beq_eq_false_iff_ne]; omega
  have nk3 : (kd != 3) = true := by rw [bne_iff_ne]; omega
  have nk6 : (kd != 6) = true := by rw [bne_iff_ne]; omega
  have hP : Blk (w.alloc (.cells #[.int .i64 kd, .int .i64 mt, .int .i64 pt, .slice A1 nm.length c1, .slice A2 ks.length c2, .bool ov, .int .i64 lm, .slice A3 ts.length c3] 107)) w.heap.size [.int .i64 kd, .int .i64 mt, .int .i64 pt, .slice A1 nm.length c1, .slice A2 ks.length c2, .bool ov, .int .i64 lm, .slice A3 ts.length c3] := Blk.made w _ _
  have p0 := hP.at 0 _ rfl
  have p1 := hP.at 1 _ rfl
  have p2 := hP.at 2 _ rfl
  have p3 := hP.at 3 _ rfl
  have p4 := hP.at 4 _ rfl
  have p5 := hP.at 5 _ rfl
  have p6 := hP.at 6 _ rfl
  have p7 := hP.at 7 _ rfl
  have j1 : (0 : Int) < (nm.length : Int) := by omega
  have j2 : (0 : Int) < (ks.length : Int) := by omega
  subst h7
  subst h8
  have j3 : ((ts.length : Int) == 0) = true := by rw [beq_iff_eq]; omega
  have h63 := hr.2.1
  replace hr := Lib.hid hr
  replace IH := Lib.hid IH
  generalize hR : errs (fun x => checkT n x (dp + 1)) ts = R
  replace hR : errs (fun x => checkT n x (dp + 1)) (ts.drop 0) = R := hR
  replace hR := Lib.hid hR
  go_enter Tryd.func159, Tryd.ntmps159
  go_wp2_with fail
  go_region
  all_goals go_wp2_with fail
  clear hP p0 p1 p2 p3 p4 p5 p6 p7
  replace hR := hR.out
  go_loopw [183] (fun i wr => ∃ k : Nat, k ≤ ts.length ∧ i = .int .i64 k ∧ errs (fun x => checkT n x (dp + 1)) (ts.drop k) = R ∧ Below w.heap.size w wr) (fun i _ => ts.length - (intOf i).toNat)
  case atStart => exact ⟨0, Nat.zero_le _, rfl, hR, (by repeat (first | exact Below.refl _ _ | apply below_alloc | apply pw_below_drewN | apply below_drew1 | (refine Below.setCell ?_ (by first | (simp; done) | (simp; omega) | omega) _) ))⟩
  case round =>
    clear hR
    obtain ⟨k, hk, rfl, hR, hB⟩ := hrel
    by_cases hlt : k < ts.length
    · exfalso; omega
    · obtain rfl : k = ts.length := by omega
      rw [errs_end] at hR
      subst hR
      have i1 : ¬ (ts.length : Int) < (ts.length : Int) := by omega
      go_wp2_with fail
      go_ret
      exact ⟨rfl, hB⟩
end Go.Proofs.YtijdghplfhfpaaaDoor.H

/- Scripts: a test that is in form: kind group E. -/
namespace Go.Proofs.YtijdghplfhfpaaaDoor.H
open Go.RowKit Go.Proofs.YtijdghplfhfpaaaDoorW.PrintWords Go.Proofs.YtijdghplfhfpaaaDoorW.PrintLast Go.Proofs.YtijdghplfhfpaaaDoor.U
set_option linter.unusedVariables false
set_option linter.unusedSimpArgs false
set_option maxHeartbeats 2000000 in
set_option maxRecDepth 100000 in
theorem chk_okE (n : Nat) (IH : ChT n) (A1 : Option Addr) (c1 : Nat) (A2 : Option Addr) (c2 : Nat) (A3 : Option Addr) (c3 : Nat) (kd mt pt : Int) (nm ks : List ByteArray) (ov : Bool) (lm : Int) (ts : List (TestN n)) (dp : Int) (w : World) (h0 : 0 ≤ dp) (h6 : dp ≤ 6) (hr : (kTest n).C w A3 ts.length ts) (k1 : 9 ≤ kd) (k2 : kd ≤ 9) (hf : formT (⟨kd, mt, pt, nm, ks, ov, lm, ts⟩ : TestF (TestN n))) : Calls Tryd.prog 159 #[.agg #[.int .i64 kd, .int .i64 mt, .int .i64 pt, .slice A1 nm.length c1, .slice A2 ks.length c2, .bool ov, .int .i64 lm, .slice A3 ts.length c3], .int .i64 dp] w (fun e w' => e = .returned (.int .i64 (errs (fun x => checkT n x (dp + 1)) ts)) ∧ Below w.heap.size w w') := by
  have hf2 : 0 < nm.length ∧ ks.length = 0 ∧ mt = 0 ∧ pt = 0 ∧ ov = false ∧ lm = 0 ∧ ts.length = 0 := by
    simp only [formT] at hf
    rw [if_pos (by omega), if_neg (by omega), if_neg (by omega), if_neg (by omega), if_neg (by omega), if_neg (by omega)] at hf
    obtain ⟨h1, ⟨h2, h3⟩, h4, ⟨h5, h6⟩, h7⟩ := hf
    exact ⟨h1, h2, h3, h4, h5, h6, h7⟩
  clear hf
  obtain ⟨h1, h2, h3, h4, h5, h6, h7⟩ := hf2
  have e1 : ¬ kd < 1 := by omega
  have e2 : ¬ 10 < kd := by omega
  have e3 : ¬ 6 < dp := by omega
  have e4 : ¬ kd < 3 := by omega
  have e5 : 5 < kd := by omega
  have b3 : (kd == 3) = false := by rw [beq_eq_false_iff_ne]; omega
  have b4 : (kd == 4) = false := by rw [beq_eq_false_iff_ne]; omega
  have b5 : (kd == 5) = false := by rw [beq_eq_false_iff_ne]; omega
  have b6 : (kd == 6) = false := by rw [beq_eq_false_iff_ne]; omega
  have b7 : (kd == 7) = false := by rw [beq_eq_false_iff_ne]; omega
  have b8 : (kd == 8) = false := by rw [beq_eq_false_iff_ne]; omega
  have b9 : (kd == 9) = true := by rw [beq_iff_eq]; omega
  have b10 : (kd == 10) = false := by rw [beq_eq_false_iff_ne]; omega
  have nk3 : (kd != 3) = true := by rw [bne_iff_ne]; omega
  have nk6 : (kd != 6) = true := by rw [bne_iff_ne]; omega
  have hP : Blk (w.alloc (.cells #[.int .i64 kd, .int .i64 mt, .int .i64 pt, .slice A1 nm.length c1, .slice A2 ks.length c2, .bool ov, .int .i64 lm, .slice A3 ts.length c3] 107)) w.heap.size [.int .i64 kd, .int .i64 mt, .int .i64 pt, .slice A1 nm.length c1, .slice A2 ks.length c2, .bool ov, .int .i64 lm, .slice A3 ts.length c3] := Blk.made w _ _
  have p0 := hP.at 0 _ rfl
  have p1 := hP.at 1 _ rfl
  have p2 := hP.at 2 _ rfl
  have p3 := hP.at 3 _ rfl
  have p4 := hP.at 4 _ rfl
  have p5 := hP.at 5 _ rfl
  have p6 := hP.at 6 _ rfl
  have p7 := hP.at 7 _ rfl
  have j1 : (0 : Int) < (nm.length : Int) := by omega
  obtain rfl := List.length_eq_zero_iff.mp h2
  subst h3
  subst h4
  subst h5
  subst h6
  have j3 : ((ts.length : Int) == 0) = true := by rw [beq_iff_eq]; omega
  have h63 := hr.2.1
  replace hr := Lib.hid hr
  replace IH := Lib.hid IH
  generalize hR : errs (fun x => checkT n x (dp + 1)) ts = R
  replace hR : errs (fun x => checkT n x (dp + 1)) (ts.drop 0) = R := hR
  replace hR := Lib.hid hR
  go_enter Tryd.func159, Tryd.ntmps159
  go_wp2_with fail
  clear hP p0 p1 p2 p3 p4 p5 p6 p7
  replace hR := hR.out
  go_loopw [183] (fun i wr => ∃ k : Nat, k ≤ ts.length ∧ i = .int .i64 k ∧ errs (fun x => checkT n x (dp + 1)) (ts.drop k) = R ∧ Below w.heap.size w wr) (fun i _ => ts.length - (intOf i).toNat)
  case atStart => exact ⟨0, Nat.zero_le _, rfl, hR, (by repeat (first | exact Below.refl _ _ | apply below_alloc | apply pw_below_drewN | apply below_drew1 | (refine Below.setCell ?_ (by first | (simp; done) | (simp; omega) | omega) _) ))⟩
  case round =>
    clear hR
    obtain ⟨k, hk, rfl, hR, hB⟩ := hrel
    by_cases hlt : k < ts.length
    · exfalso; omega
    · obtain rfl : k = ts.length := by omega
      rw [errs_end] at hR
      subst hR
      have i1 : ¬ (ts.length : Int) < (ts.length : Int) := by omega
      go_wp2_with fail
      go_ret
      exact ⟨rfl, hB⟩
end Go.Proofs.YtijdghplfhfpaaaDoor.H

/- Scripts: a test that is in form: kind group S. -/
namespace Go.Proofs.YtijdghplfhfpaaaDoor.H
open Go.RowKit Go.Proofs.YtijdghplfhfpaaaDoorW.PrintWords Go.Proofs.YtijdghplfhfpaaaDoorW.PrintLast Go.Proofs.YtijdghplfhfpaaaDoor.U
set_option linter.unusedVariables false
set_option linter.unusedSimpArgs false
set_option maxHeartbeats 2000000 in
set_option maxRecDepth 100000 in
theorem chk_okS (n : Nat) (IH : ChT n) (A1 : Option Addr) (c1 : Nat) (A2 : Option Addr) (c2 : Nat) (A3 : Option Addr) (c3 : Nat) (kd mt pt : Int) (nm ks : List ByteArray) (ov : Bool) (lm : Int) (ts : List (TestN n)) (dp : Int) (w : World) (h0 : 0 ≤ dp) (h6 : dp ≤ 6) (hr : (kTest n).C w A3 ts.length ts) (k1 : 10 ≤ kd) (k2 : kd ≤ 10) (hf : formT (⟨kd, mt, pt, nm, ks, ov, lm, ts⟩ : TestF (TestN n))) : Calls Tryd.prog 159 #[.agg #[.int .i64 kd, .int .i64 mt, .int .i64 pt, .slice A1 nm.length c1, .slice A2 ks.length c2, .bool ov, .int .i64 lm, .slice A3 ts.length c3], .int .i64 dp] w (fun e w' => e = .returned (.int .i64 (errs (fun x => checkT n x (dp + 1)) ts)) ∧ Below w.heap.size w w') := by
  have hf2 : nm.length = 0 ∧ ks.length = 0 ∧ mt = 0 ∧ pt = 0 ∧ 0 ≤ lm ∧ lm ≤ 2147483647 ∧ ts.length = 0 := by
    simp only [formT] at hf
    rw [if_neg (by omega), if_neg (by omega), if_neg (by omega), if_pos (by omega), if_neg (by omega), if_neg (by omega)] at hf
    obtain ⟨h1, ⟨h2, h3⟩, h4, ⟨h5, h6⟩, h7⟩ := hf
    exact ⟨h1, h2, h3, h4, h5, h6, h7⟩
  clear hf
  obtain ⟨h1, h2, h3, h4, h5, h6, h7⟩ := hf2
  have e1 : ¬ kd < 1 := by omega
  have e2 : ¬ 10 < kd := by omega
  have e3 : ¬ 6 < dp := by omega
  have e4 : ¬ kd < 3 := by omega
  have e5 : 5 < kd := by omega
  have b3 : (kd == 3) = false := by rw [beq_eq_false_iff_ne]; omega
  have b4 : (kd == 4) = false := by rw [beq_eq_false_iff_ne]; omega
  have b5 : (kd == 5) = false := by rw [beq_eq_false_iff_ne]; omega
  have b6 : (kd == 6) = false := by rw [beq_eq_false_iff_ne]; omega
  have b7 : (kd == 7) = false := by rw [beq_eq_false_iff_ne]; omega
  have b8 : (kd == 8) = false := by rw [beq_eq_false_iff_ne]; omega
  have b9 : (kd == 9) = false := by rw [beq_eq_false_iff_ne]; omega
  have b10 : (kd == 10) = true := by rw [beq_iff_eq]; omega
  have nk3 : (kd != 3) = true := by rw [bne_iff_ne]; omega
  have nk6 : (kd != 6) = true := by rw [bne_iff_ne]; omega
  have hP : Blk (w.alloc (.cells #[.int .i64 kd, .int .i64 mt, .int .i64 pt, .slice A1 nm.length c1, .slice A2 ks.length c2, .bool ov, .int .i64 lm, .slice A3 ts.length c3] 107)) w.heap.size [.int .i64 kd, .int .i64 mt, .int .i64 pt, .slice A1 nm.length c1, .slice A2 ks.length c2, .bool ov, .int .i64 lm, .slice A3 ts.length c3] := Blk.made w _ _
  have p0 := hP.at 0 _ rfl
  have p1 := hP.at 1 _ rfl
  have p2 := hP.at 2 _ rfl
  have p3 := hP.at 3 _ rfl
  have p4 := hP.at 4 _ rfl
  have p5 := hP.at 5 _ rfl
  have p6 := hP.at 6 _ rfl
  have p7 := hP.at 7 _ rfl
  obtain rfl := List.length_eq_zero_iff.mp h1
  obtain rfl := List.length_eq_zero_iff.mp h2
  subst h3
  subst h4
  have j3 : ((ts.length : Int) == 0) = true := by rw [beq_iff_eq]; omega
  have h63 := hr.2.1
  replace hr := Lib.hid hr
  replace IH := Lib.hid IH
  generalize hR : errs (fun x => checkT n x (dp + 1)) ts = R
  replace hR : errs (fun x => checkT n x (dp + 1)) (ts.drop 0) = R := hR
  replace hR := Lib.hid hR
  go_enter Tryd.func159, Tryd.ntmps159
  go_wp2_with fail
  go_region
  all_goals go_wp2_with fail
  clear hP p0 p1 p2 p3 p4 p5 p6 p7
  replace hR := hR.out
  go_loopw [183] (fun i wr => ∃ k : Nat, k ≤ ts.length ∧ i = .int .i64 k ∧ errs (fun x => checkT n x (dp + 1)) (ts.drop k) = R ∧ Below w.heap.size w wr) (fun i _ => ts.length - (intOf i).toNat)
  case atStart => exact ⟨0, Nat.zero_le _, rfl, hR, (by repeat (first | exact Below.refl _ _ | apply below_alloc | apply pw_below_drewN | apply below_drew1 | (refine Below.setCell ?_ (by first | (simp; done) | (simp; omega) | omega) _) ))⟩
  case round =>
    clear hR
    obtain ⟨k, hk, rfl, hR, hB⟩ := hrel
    by_cases hlt : k < ts.length
    · exfalso; omega
    · obtain rfl : k = ts.length := by omega
      rw [errs_end] at hR
      subst hR
      have i1 : ¬ (ts.length : Int) < (ts.length : Int) := by omega
      go_wp2_with fail
      go_ret
      exact ⟨rfl, hB⟩
end Go.Proofs.YtijdghplfhfpaaaDoor.H

/- Scripts: is a test in form? The program's walk, whole. -/
namespace Go.Proofs.YtijdghplfhfpaaaDoor.H
open Go.RowKit Go.Proofs.YtijdghplfhfpaaaDoorW.PrintWords Go.Proofs.YtijdghplfhfpaaaDoorW.PrintLast Go.Proofs.YtijdghplfhfpaaaDoor.U
set_option linter.unusedVariables false
set_option linter.unusedSimpArgs false
set_option maxHeartbeats 1000000 in
set_option maxRecDepth 100000 in
theorem chk_kind (A1 : Option Addr) (c1 : Nat) (A2 : Option Addr) (c2 : Nat) (A3 : Option Addr) (c3 : Nat) (kd mt pt : Int) (nm ks : List ByteArray) (ov : Bool) (lm : Int) (n : Nat) (ts : List (TestN n)) (dp : Int) (w : World) (h : kd < 1 ∨ 10 < kd) :
    Calls Tryd.prog 159 #[.agg #[.int .i64 kd, .int .i64 mt, .int .i64 pt, .slice A1 nm.length c1, .slice A2 ks.length c2, .bool ov, .int .i64 lm, .slice A3 ts.length c3], .int .i64 dp] w (fun e w' => e = .returned (.int .i64 2) ∧ Below w.heap.size w w') := by
  have hP : Blk (w.alloc (.cells #[.int .i64 kd, .int .i64 mt, .int .i64 pt, .slice A1 nm.length c1, .slice A2 ks.length c2, .bool ov, .int .i64 lm, .slice A3 ts.length c3] 107)) w.heap.size [.int .i64 kd, .int .i64 mt, .int .i64 pt, .slice A1 nm.length c1, .slice A2 ks.length c2, .bool ov, .int .i64 lm, .slice A3 ts.length c3] := Blk.made w _ _
  have p0 := hP.at 0 _ rfl
  have p1 := hP.at 1 _ rfl
  have p2 := hP.at 2 _ rfl
  have p3 := hP.at 3 _ rfl
  have p4 := hP.at 4 _ rfl
  have p5 := hP.at 5 _ rfl
  have p6 := hP.at 6 _ rfl
  have p7 := hP.at 7 _ rfl
  by_cases h1 : kd < 1
  · clear h
    go_enter Tryd.func159, Tryd.ntmps159
    go_wp2_with fail
    go_ret
    exact ⟨rfl, (by repeat (first | exact Below.refl _ _ | apply below_alloc | apply pw_below_drewN | apply below_drew1 | (refine Below.setCell ?_ (by first | (simp; done) | (simp; omega) | omega) _) ))⟩
  · have h2 : 10 < kd := by omega
    clear h
    go_enter Tryd.func159, Tryd.ntmps159
    go_wp2_with fail
    go_ret
    exact ⟨rfl, (by repeat (first | exact Below.refl _ _ | apply below_alloc | apply pw_below_drewN | apply below_drew1 | (refine Below.setCell ?_ (by first | (simp; done) | (simp; omega) | omega) _) ))⟩
set_option maxHeartbeats 1000000 in
set_option maxRecDepth 100000 in
theorem chk_deep (A1 : Option Addr) (c1 : Nat) (A2 : Option Addr) (c2 : Nat) (A3 : Option Addr) (c3 : Nat) (kd mt pt : Int) (nm ks : List ByteArray) (ov : Bool) (lm : Int) (n : Nat) (ts : List (TestN n)) (dp : Int) (w : World) (h : ¬ (kd < 1 ∨ 10 < kd)) (hd : 6 < dp) :
    Calls Tryd.prog 159 #[.agg #[.int .i64 kd, .int .i64 mt, .int .i64 pt, .slice A1 nm.length c1, .slice A2 ks.length c2, .bool ov, .int .i64 lm, .slice A3 ts.length c3], .int .i64 dp] w (fun e w' => e = .returned (.int .i64 1) ∧ Below w.heap.size w w') := by
  have hP : Blk (w.alloc (.cells #[.int .i64 kd, .int .i64 mt, .int .i64 pt, .slice A1 nm.length c1, .slice A2 ks.length c2, .bool ov, .int .i64 lm, .slice A3 ts.length c3] 107)) w.heap.size [.int .i64 kd, .int .i64 mt, .int .i64 pt, .slice A1 nm.length c1, .slice A2 ks.length c2, .bool ov, .int .i64 lm, .slice A3 ts.length c3] := Blk.made w _ _
  have p0 := hP.at 0 _ rfl
  have p1 := hP.at 1 _ rfl
  have p2 := hP.at 2 _ rfl
  have p3 := hP.at 3 _ rfl
  have p4 := hP.at 4 _ rfl
  have p5 := hP.at 5 _ rfl
  have p6 := hP.at 6 _ rfl
  have p7 := hP.at 7 _ rfl
  have h1 : ¬ kd < 1 := by omega
  have h2 : ¬ 10 < kd := by omega
  clear h
  go_enter Tryd.func159, Tryd.ntmps159
  go_wp2_with fail
  go_ret
  exact ⟨rfl, (by repeat (first | exact Below.refl _ _ | apply below_alloc | apply pw_below_drewN | apply below_drew1 | (refine Below.setCell ?_ (by first | (simp; done) | (simp; omega) | omega) _) ))⟩
theorem checkTest_step (n : Nat) (IH : ChT n) : ChT (n + 1) := by
  intro t cs dp w hK h0 h10
  obtain ⟨A1, c1, A2, c2, A3, c3, rfl, _, _, _, hr⟩ := test_K hK
  obtain ⟨kd, mt, pt, nm, ks, ov, lm, ts⟩ := t
  simp only at hr
  show Calls _ _ _ w fun e w' => e = .returned (.int .i64 (chkT (checkT n) ⟨kd, mt, pt, nm, ks, ov, lm, ts⟩ dp)) ∧ Below w.heap.size w w'
  unfold chkT
  simp only
  by_cases hk : kd < 1 ∨ 10 < kd
  · rw [if_pos hk]
    exact chk_kind A1 c1 A2 c2 A3 c3 kd mt pt nm ks ov lm n ts dp w hk
  · rw [if_neg hk]
    by_cases hd : 6 < dp
    · rw [if_pos hd]
      exact chk_deep A1 c1 A2 c2 A3 c3 kd mt pt nm ks ov lm n ts dp w hk hd
    · rw [if_neg hd]
      by_cases hf : formT (⟨kd, mt, pt, nm, ks, ov, lm, ts⟩ : TestF (TestN n))
      · rw [if_pos hf]
        rcases (by omega : kd ≤ 2 ∨ kd = 3 ∨ kd = 4 ∨ kd = 5 ∨ kd = 6 ∨ kd = 7 ∨ kd = 8 ∨ kd = 9 ∨ kd = 10) with h | h | h | h | h | h | h | h | h
        · exact chk_okA n IH A1 c1 A2 c2 A3 c3 kd mt pt nm ks ov lm ts dp w h0 (by omega) hr (by omega) (by omega) hf
        · exact chk_okN n IH A1 c1 A2 c2 A3 c3 kd mt pt nm ks ov lm ts dp w h0 (by omega) hr (by omega) (by omega) hf
        · exact chk_okL4 n IH A1 c1 A2 c2 A3 c3 kd mt pt nm ks ov lm ts dp w h0 (by omega) hr (by omega) (by omega) hf
        · exact chk_okL5 n IH A1 c1 A2 c2 A3 c3 kd mt pt nm ks ov lm ts dp w h0 (by omega) hr (by omega) (by omega) hf
        · exact chk_okH n IH A1 c1 A2 c2 A3 c3 kd mt pt nm ks ov lm ts dp w h0 (by omega) hr (by omega) (by omega) hf
        · exact chk_okD7 n IH A1 c1 A2 c2 A3 c3 kd mt pt nm ks ov lm ts dp w h0 (by omega) hr (by omega) (by omega) hf
        · exact chk_okD8 n IH A1 c1 A2 c2 A3 c3 kd mt pt nm ks ov lm ts dp w h0 (by omega) hr (by omega) (by omega) hf
        · exact chk_okE n IH A1 c1 A2 c2 A3 c3 kd mt pt nm ks ov lm ts dp w h0 (by omega) hr (by omega) (by omega) hf
        · exact chk_okS n IH A1 c1 A2 c2 A3 c3 kd mt pt nm ks ov lm ts dp w h0 (by omega) hr (by omega) (by omega) hf
      · rw [if_neg hf]
        rcases (by omega : kd ≤ 2 ∨ kd = 3 ∨ (4 ≤ kd ∧ kd ≤ 5) ∨ kd = 6 ∨ (7 ≤ kd ∧ kd ≤ 8) ∨ kd = 9 ∨ kd = 10) with h | h | h | h | h | h | h
        · exact chk_A n A1 c1 A2 c2 A3 c3 kd mt pt nm ks ov lm ts dp w h0 (by omega) (by omega) (by omega) hf
        · exact chk_N n A1 c1 A2 c2 A3 c3 kd mt pt nm ks ov lm ts dp w h0 (by omega) (by omega) (by omega) hf
        · exact chk_L n A1 c1 A2 c2 A3 c3 kd mt pt nm ks ov lm ts dp w h0 (by omega) (by omega) (by omega) hf
        · exact chk_H n A1 c1 A2 c2 A3 c3 kd mt pt nm ks ov lm ts dp w h0 (by omega) (by omega) (by omega) hf
        · exact chk_D n A1 c1 A2 c2 A3 c3 kd mt pt nm ks ov lm ts dp w h0 (by omega) (by omega) (by omega) hf
        · exact chk_E n A1 c1 A2 c2 A3 c3 kd mt pt nm ks ov lm ts dp w h0 (by omega) (by omega) (by omega) hf
        · exact chk_S n A1 c1 A2 c2 A3 c3 kd mt pt nm ks ov lm ts dp w h0 (by omega) (by omega) (by omega) hf
theorem checkTest_calls : ∀ n, ChT n
  | 0 => fun t => nomatch t
  | n + 1 => checkTest_step n (checkTest_calls n)
end Go.Proofs.YtijdghplfhfpaaaDoor.H

/- Scripts: copies of commands. -/
namespace Go.Proofs.YtijdghplfhfpaaaDoor.H
open Go.RowKit Go.Proofs.YtijdghplfhfpaaaDoorW.PrintWords Go.Proofs.YtijdghplfhfpaaaDoorW.PrintLast Go.Proofs.YtijdghplfhfpaaaDoor.U
set_option linter.unusedVariables false
set_option linter.unusedSimpArgs false
section
variable {ops : Array Oper} {rest : List Oper} {o : Oper} {a : Act} {Q : Exit → Act → World → Prop} {n : Nat}
/-- append(v, command), the command's rows made later than the row. -/
theorem snocC_list (base base2 : Nat) {W : World} (hgd : o.guard = none) (s x : Operand)
    (ho : o.op = .call { callee := .builtin .append, args := #[s, x], argTypes := #[62, 62] })
    (v : Value) (xs : List (CmdN n)) (p : CmdN n) (cs : List Value) (hs : a.eval s = v) (hx : a.eval x = .slice (some ⟨W.heap.size, 0, none⟩) 1 1)
    (hM : (kCmd n).M W base2 (fun _ => True) p cs) (hb2 : base ≤ base2) (hvo : ∀ k, v.ownBlock = some k → k < base2)
    (HO : (kCmd n).R 109 W base (fun _ => True) v xs) (hbase : base ≤ W.heap.size) (hl : (xs.length + 1) * 192 ≤ 140737488355328)
    (h : ∀ v1 w1, (kCmd n).R 109 w1 base (fun _ => True) v1 (xs ++ [p]) → Below base W w1 → wpList Tryd.prog ops Q rest (a.put o.dst v1) w1) :
    wpList Tryd.prog ops Q (o :: rest) a (W.alloc (.cells cs.toArray 109)) :=
  Kd.R_append (kCmd n) (w0 := W) base hgd s x 62 109 (.agg #[.int .i64 0, .slice none 0 0, .int .i64 0, .int .i64 0, .int .i64 0, .slice none 0 0, .slice none 0 0, .bool false, .int .i64 0, .slice none 0 0, .slice none 0 0, .slice none 0 0]) 192 ho Tryd.underlying62 (by rw [kCmd_sz]; kernel_rfl) (by rw [kCmd_sz]; rfl) (by rw [kCmd_sz]; decide) (by decide) v xs p cs (fun _ => True) (fun k => base2 ≤ k) hs hx
    (show (kCmd n).M W base (fun k => base2 ≤ k) p cs from (kCmd n).M_lower hb2 ((kCmd n).M_mono (fun k hk => hk.2.1) ((kCmd n).M_bound hM))) (fun k hk => ⟨trivial, fun he => by have := hvo k he.symm; omega⟩) (fun _ _ => trivial) HO (Below.refl _ _) hbase hl (fun v1 w1 hR hb _ _ => h v1 w1 hR hb)
end
theorem elder12 {α : Type} {d : Kd α} {e : Nat} {w1 : World} {base b : Nat} {v : Value} {xs : List α} {v0 v1 v2 v3 v4 v5 v6 v7 v8 v9 v10 v11 : Value} (h : d.R e w1 base (fun _ => True) v xs) (hb : b < base) :
    d.R e ((((((((((((w1.setCell ⟨b, 0, none⟩ v0).setCell ⟨b, 1, none⟩ v1).setCell ⟨b, 2, none⟩ v2).setCell ⟨b, 3, none⟩ v3).setCell ⟨b, 4, none⟩ v4).setCell ⟨b, 5, none⟩ v5).setCell ⟨b, 6, none⟩ v6).setCell ⟨b, 7, none⟩ v7).setCell ⟨b, 8, none⟩ v8).setCell ⟨b, 9, none⟩ v9).setCell ⟨b, 10, none⟩ v10).setCell ⟨b, 11, none⟩ v11) base (fun _ => True) v xs :=
  R_elder (R_elder (R_elder (R_elder (R_elder (R_elder (R_elder (R_elder (R_elder (R_elder (R_elder (R_elder h hb _) hb _) hb _) hb _) hb _) hb _) hb _) hb _) hb _) hb _) hb _) hb _
theorem M_elder {α : Type} {d : Kd α} {w : World} {base : Nat} {x : α} {cs : List Value} (h : d.M w base (fun _ => True) x cs) {p : Addr} (hp : p.block < base) (u : Value) : d.M (w.setCell p u) base (fun _ => True) x cs :=
  d.M_mono (fun _ _ => trivial) (Kd.M_far (d.M_bound h) (fun k hk he => by have := hk.2.1; omega) u)
theorem elderM12 {α : Type} {d : Kd α} {w1 : World} {base b : Nat} {x : α} {cs : List Value} {v0 v1 v2 v3 v4 v5 v6 v7 v8 v9 v10 v11 : Value} (h : d.M w1 base (fun _ => True) x cs) (hb : b < base) :
    d.M ((((((((((((w1.setCell ⟨b, 0, none⟩ v0).setCell ⟨b, 1, none⟩ v1).setCell ⟨b, 2, none⟩ v2).setCell ⟨b, 3, none⟩ v3).setCell ⟨b, 4, none⟩ v4).setCell ⟨b, 5, none⟩ v5).setCell ⟨b, 6, none⟩ v6).setCell ⟨b, 7, none⟩ v7).setCell ⟨b, 8, none⟩ v8).setCell ⟨b, 9, none⟩ v9).setCell ⟨b, 10, none⟩ v10).setCell ⟨b, 11, none⟩ v11) base (fun _ => True) x cs :=
  M_elder (M_elder (M_elder (M_elder (M_elder (M_elder (M_elder (M_elder (M_elder (M_elder (M_elder (M_elder (h) hb _) hb _) hb _) hb _) hb _) hb _) hb _) hb _) hb _) hb _) hb _) hb _
theorem below12 {w w1 : World} {N b : Nat} {v0 v1 v2 v3 v4 v5 v6 v7 v8 v9 v10 v11 : Value} (h : Below N w w1) (hb : N ≤ b) :
    Below N w ((((((((((((w1.setCell ⟨b, 0, none⟩ v0).setCell ⟨b, 1, none⟩ v1).setCell ⟨b, 2, none⟩ v2).setCell ⟨b, 3, none⟩ v3).setCell ⟨b, 4, none⟩ v4).setCell ⟨b, 5, none⟩ v5).setCell ⟨b, 6, none⟩ v6).setCell ⟨b, 7, none⟩ v7).setCell ⟨b, 8, none⟩ v8).setCell ⟨b, 9, none⟩ v9).setCell ⟨b, 10, none⟩ v10).setCell ⟨b, 11, none⟩ v11) :=
  Below.setCell (Below.setCell (Below.setCell (Below.setCell (Below.setCell (Below.setCell (Below.setCell (Below.setCell (Below.setCell (Below.setCell (Below.setCell (Below.setCell (h) hb v0) hb v1) hb v2) hb v3) hb v4) hb v5) hb v6) hb v7) hb v8) hb v9) hb v10) hb v11
/-- The contracts of the copies of commands. -/
def CpC (n : Nat) : Prop := ∀ (x : CmdN n) (cs : List Value) (w : World), (kCmd n).K w x cs → wtC n x ≤ 1048576 →
  Calls Tryd.prog 70 #[.agg cs.toArray] w fun e w' => ∃ cs', e = .returned (.agg cs'.toArray) ∧ (kCmd n).M w' w.heap.size (fun _ => True) x cs' ∧ Below w.heap.size w w'
def CpL (n : Nat) : Prop := ∀ (A : Option Addr) (c : Nat) (l : List (CmdN n)) (w : World), (kCmd n).C w A l.length l → (l.map (wtC n)).sum ≤ 1048576 →
  Calls Tryd.prog 34 #[.slice A l.length c] w fun e w' => ∃ v, e = .returned v ∧ (kCmd n).R 109 w' w.heap.size (fun _ => True) v l ∧ Below w.heap.size w w'
theorem wtC_pos : ∀ n (t : CmdN n), 1 ≤ wtC n t
  | 0, t => nomatch t
  | n + 1, t => by show 1 ≤ 1 + _ + _ + _ + _; omega
set_option maxHeartbeats 1000000 in
set_option maxRecDepth 100000 in
theorem commands_of (n : Nat) (IH : CpC n) : CpL n := by
  intro A c l w hr hw
  have hll := sum_len (wtC n) (wtC_pos n) l
  have hel := Lib.hid (sum_mem (wtC n) l)
  have htl : l.length ≤ 1048576 := by omega
  replace hw := Lib.hid hw
  replace IH := Lib.hid IH
  replace hr := Lib.hid hr
  clear hll
  go_enter Tryd.func34, Tryd.ntmps34
  go_wp2_with fail
  go_loopw [3, 4] (fun v i wr => ∃ k : Nat, k ≤ l.length ∧ i = .int .i64 k ∧ (kCmd n).R 109 wr w.heap.size (fun _ => True) v (l.take k) ∧ Below w.heap.size w wr) (fun _ i _ => l.length - (intOf i).toNat)
  case atStart => exact ⟨0, Nat.zero_le _, rfl, Kd.R_nil _ _ _ _ _, Below.refl _ _⟩
  case round =>
    obtain ⟨k, hk, rfl, hR, hB⟩ := hrel
    have hzz := hB.size
    by_cases hlt : k < l.length
    · obtain ⟨ad, cx, e1, hKx, hx0, hxj⟩ := elem_at (Kd.C_below hr.out hB) (kCmd_sz n) k hlt
      subst e1
      obtain ⟨X0, l0, C0, x1, x2, x3, X4, l4, C4, X5, l5, C5, x6, x7, X8, l8, C8, X9, l9, C9, X10, l10, C10, rfl⟩ := cmdN_K hKx
      have q0 := hx0 _ rfl; have q1 := hxj 1 _ (by decide) rfl; have q2 := hxj 2 _ (by decide) rfl; have q3 := hxj 3 _ (by decide) rfl; have q4 := hxj 4 _ (by decide) rfl; have q5 := hxj 5 _ (by decide) rfl; have q6 := hxj 6 _ (by decide) rfl; have q7 := hxj 7 _ (by decide) rfl; have q8 := hxj 8 _ (by decide) rfl; have q9 := hxj 9 _ (by decide) rfl; have q10 := hxj 10 _ (by decide) rfl; have q11 := hxj 11 _ (by decide) rfl
      clear hx0 hxj
      have hts := Lib.hid (List.take_succ_eq_append_getElem hlt)
      have hwx : wtC n l[k] ≤ 1048576 := Nat.le_trans (hel.out k hlt) hw.out
      have HX := Lib.hid (IH.out l[k] _ wr hKx hwx)
      generalize kindC n l[k] = x0 at *
      generalize l[k] = y at *
      have i0 : (0 : Int) ≤ (k : Int) := by omega
      have i1 : (k : Int) < (l.length : Int) := by omega
      go_wp2_with fail
      refine HX.out.mono ?_
      rintro e w5 ⟨cy, rfl, hMy, hb5⟩
      obtain ⟨Y1, m1, D1, y2, y3, y4, Y5, m5, D5, Y6, m6, D6, y7, y8, Y9, m9, D9, Y10, m10, D10, Y11, m11, D11, rfl⟩ := cmdN_K ((kCmd n).K_of_M hMy)
      generalize kindC n y = y0 at *
      have hz5 := hb5.size
      have hB5 : Below w.heap.size w w5 := hB.trans (hb5.mono hB.size)
      have hvo := Lib.hid (Kd.R_lt hR)
      have hR5 := Kd.R_below (Kd.R_below hR hb5) ((Below.refl _ _).alloc (Nat.le_refl _) (.cells #[.int .i64 y0, .slice Y1 m1 D1, .int .i64 y2, .int .i64 y3, .int .i64 y4, .slice Y5 m5 D5, .slice Y6 m6 D6, .bool y7, .int .i64 y8, .slice Y9 m9 D9, .slice Y10 m10 D10, .slice Y11 m11 D11] 109))
      have hM5 := Kd.M_below hMy ((Below.refl _ _).alloc (Nat.le_refl _) (.cells #[.int .i64 y0, .slice Y1 m1 D1, .int .i64 y2, .int .i64 y3, .int .i64 y4, .slice Y5 m5 D5, .slice Y6 m6 D6, .bool y7, .int .i64 y8, .slice Y9 m9 D9, .slice Y10 m10 D10, .slice Y11 m11 D11] 109))
      have hO := Blk.made w5 #[.int .i64 y0, .slice Y1 m1 D1, .int .i64 y2, .int .i64 y3, .int .i64 y4, .slice Y5 m5 D5, .slice Y6 m6 D6, .bool y7, .int .i64 y8, .slice Y9 m9 D9, .slice Y10 m10 D10, .slice Y11 m11 D11] 109
      have o0 := hO.at 0 _ rfl
      have o1 := hO.at 1 _ rfl
      have o2 := hO.at 2 _ rfl
      have o3 := hO.at 3 _ rfl
      have o4 := hO.at 4 _ rfl
      have o5 := hO.at 5 _ rfl
      have o6 := hO.at 6 _ rfl
      have o7 := hO.at 7 _ rfl
      have o8 := hO.at 8 _ rfl
      have o9 := hO.at 9 _ rfl
      have o10 := hO.at 10 _ rfl
      have o11 := hO.at 11 _ rfl
      have hlk : (l.take k).length = k := by rw [List.length_take]; omega
      replace hlk := Lib.hid hlk
      go_wp2_with (at_builtin; refine snocC_list w.heap.size wr.heap.size rfl _ _ rfl u3 (l.take k) y [.int .i64 y0, .slice Y1 m1 D1, .int .i64 y2, .int .i64 y3, .int .i64 y4, .slice Y5 m5 D5, .slice Y6 m6 D6, .bool y7, .int .i64 y8, .slice Y9 m9 D9, .slice Y10 m10 D10, .slice Y11 m11 D11] (by first | rfl | (simp [Act.eval]; done)) (by first | rfl | (simp [Act.eval]; done)) hM5 hzz hvo.out hR5 (by simp; omega) (by rw [hlk.out]; omega) ?_)
      intro v9 w9 hR9 hb9
      have hB9 : Below w.heap.size w w9 := (hB5.alloc hB5.size _).trans hb9
      go_wp2_with fail
      go_roundw
      case rel => exact ⟨k + 1, hlt, by go_num, by rw [hts.out]; exact hR9, hB9⟩
      case measure => simp [intOf]; omega
    · obtain rfl : k = l.length := by omega
      have i1 : ¬ (l.length : Int) < (l.length : Int) := by omega
      rw [List.take_length] at hR
      go_wp2_with fail
      go_ret
      exact ⟨_, rfl, hR, hB⟩
end Go.Proofs.YtijdghplfhfpaaaDoor.H

/- Scripts: has a test nothing? Are commands in form? The program's walks. -/
namespace Go.Proofs.YtijdghplfhfpaaaDoor.H
open Go.RowKit Go.Proofs.YtijdghplfhfpaaaDoorW.PrintWords Go.Proofs.YtijdghplfhfpaaaDoorW.PrintLast Go.Proofs.YtijdghplfhfpaaaDoor.U
set_option linter.unusedVariables false
set_option linter.unusedSimpArgs false
set_option maxHeartbeats 1000000 in
set_option maxRecDepth 100000 in
theorem bare_calls {α : Type} (A1 : Option Addr) (c1 : Nat) (A2 : Option Addr) (c2 : Nat) (A3 : Option Addr) (c3 : Nat) (kd mt pt : Int) (nm ks : List ByteArray) (ov : Bool) (lm : Int) (ts : List α) (w : World) (hn : nm.length ≤ 1048576) (hk : ks.length ≤ 1048576) (ht : ts.length ≤ 1048576) :
    Calls Tryd.prog 160 #[.agg #[.int .i64 kd, .int .i64 mt, .int .i64 pt, .slice A1 nm.length c1, .slice A2 ks.length c2, .bool ov, .int .i64 lm, .slice A3 ts.length c3]] w fun e w' => e = .returned (.bool (decide (bareT (⟨kd, mt, pt, nm, ks, ov, lm, ts⟩ : TestF α)))) ∧ Below w.heap.size w w' := by
  have hP : Blk (w.alloc (.cells #[.int .i64 kd, .int .i64 mt, .int .i64 pt, .slice A1 nm.length c1, .slice A2 ks.length c2, .bool ov, .int .i64 lm, .slice A3 ts.length c3] 107)) w.heap.size [.int .i64 kd, .int .i64 mt, .int .i64 pt, .slice A1 nm.length c1, .slice A2 ks.length c2, .bool ov, .int .i64 lm, .slice A3 ts.length c3] := Blk.made w _ _
  have p0 := hP.at 0 _ rfl
  have p1 := hP.at 1 _ rfl
  have p2 := hP.at 2 _ rfl
  have p3 := hP.at 3 _ rfl
  have p4 := hP.at 4 _ rfl
  have p5 := hP.at 5 _ rfl
  have p6 := hP.at 6 _ rfl
  have p7 := hP.at 7 _ rfl
  have hB : Below w.heap.size w (w.alloc (.cells #[.int .i64 kd, .int .i64 mt, .int .i64 pt, .slice A1 nm.length c1, .slice A2 ks.length c2, .bool ov, .int .i64 lm, .slice A3 ts.length c3] 107)) := (by repeat (first | exact Below.refl _ _ | apply below_alloc | apply pw_below_drewN | apply below_drew1 | (refine Below.setCell ?_ (by first | (simp; done) | (simp; omega) | omega) _) ))
  have hsum : ((nm.length : Int) + ks.length + ts.length = 0) ↔ (nm.length = 0 ∧ ks.length = 0 ∧ ts.length = 0) := by omega
  by_cases hb : bareT (⟨kd, mt, pt, nm, ks, ov, lm, ts⟩ : TestF α)
  · rw [decide_eq_true hb]
    obtain ⟨h1, h2, h3, h4, h5, h6, h7, h8⟩ := hb
    simp only at h1 h2 h3 h4 h5 h6 h7 h8
    have b1 : (kd == 0) = true := by rw [beq_iff_eq]; exact h1
    have b2 : (mt == 0) = true := by rw [beq_iff_eq]; exact h2
    have b3 : (pt == 0) = true := by rw [beq_iff_eq]; exact h3
    have b4 : (((nm.length : Int) + ks.length + ts.length) == 0) = true := by rw [beq_iff_eq]; omega
    have b8 : (lm == 0) = true := by rw [beq_iff_eq]; exact h8
    subst h7
    clear h1 h2 h3 h4 h5 h6 h8 hsum
    go_enter Tryd.func160, Tryd.ntmps160
    go_wp2_with fail
    go_ret
    exact ⟨rfl, (by repeat (first | exact Below.refl _ _ | apply below_alloc | apply pw_below_drewN | apply below_drew1 | (refine Below.setCell ?_ (by first | (simp; done) | (simp; omega) | omega) _) ))⟩
  · rw [decide_eq_false hb]
    have hb2 : ¬ (kd = 0 ∧ mt = 0 ∧ pt = 0 ∧ nm.length = 0 ∧ ks.length = 0 ∧ ts.length = 0 ∧ ov = false ∧ lm = 0) := fun h => hb h
    clear hb
    replace hb2 := Lib.hid hb2
    clear hsum
    by_cases h1 : kd = 0
    · have b1 : (kd == 0) = true := by rw [beq_iff_eq]; exact h1
      by_cases h2 : mt = 0
      · have b2 : (mt == 0) = true := by rw [beq_iff_eq]; exact h2
        by_cases h3 : pt = 0
        · have b3 : (pt == 0) = true := by rw [beq_iff_eq]; exact h3
          by_cases h4 : (nm.length : Int) + ks.length + ts.length = 0
          · have b4 : (((nm.length : Int) + ks.length + ts.length) == 0) = true := by rw [beq_iff_eq]; exact h4
            by_cases h7 : ov = false
            · have h8 : ¬ lm = 0 := fun h8 => hb2.out ⟨h1, h2, h3, by omega, by omega, by omega, h7, h8⟩
              have b8 : (lm == 0) = false := by rw [beq_eq_false_iff_ne]; exact h8
              subst h7
              clear h1 h2 h3 h4 h8 hb2
              go_enter Tryd.func160, Tryd.ntmps160
              go_wp2_with fail
              go_ret
              exact ⟨rfl, (by repeat (first | exact Below.refl _ _ | apply below_alloc | apply pw_below_drewN | apply below_drew1 | (refine Below.setCell ?_ (by first | (simp; done) | (simp; omega) | omega) _) ))⟩
            · obtain rfl : ov = true := by simpa using h7
              clear h1 h2 h3 h4 h7 hb2
              go_enter Tryd.func160, Tryd.ntmps160
              go_wp2_with fail
              go_ret
              exact ⟨rfl, (by repeat (first | exact Below.refl _ _ | apply below_alloc | apply pw_below_drewN | apply below_drew1 | (refine Below.setCell ?_ (by first | (simp; done) | (simp; omega) | omega) _) ))⟩
          · have b4 : (((nm.length : Int) + ks.length + ts.length) == 0) = false := by rw [beq_eq_false_iff_ne]; exact h4
            clear h1 h2 h3 h4 hb2
            go_enter Tryd.func160, Tryd.ntmps160
            go_wp2_with fail
            go_ret
            exact ⟨rfl, (by repeat (first | exact Below.refl _ _ | apply below_alloc | apply pw_below_drewN | apply below_drew1 | (refine Below.setCell ?_ (by first | (simp; done) | (simp; omega) | omega) _) ))⟩
        · have b3 : (pt == 0) = false := by rw [beq_eq_false_iff_ne]; exact h3
          clear h1 h2 h3 hb2
          go_enter Tryd.func160, Tryd.ntmps160
          go_wp2_with fail
          go_ret
          exact ⟨rfl, (by repeat (first | exact Below.refl _ _ | apply below_alloc | apply pw_below_drewN | apply below_drew1 | (refine Below.setCell ?_ (by first | (simp; done) | (simp; omega) | omega) _) ))⟩
      · have b2 : (mt == 0) = false := by rw [beq_eq_false_iff_ne]; exact h2
        clear h1 h2 hb2
        go_enter Tryd.func160, Tryd.ntmps160
        go_wp2_with fail
        go_ret
        exact ⟨rfl, (by repeat (first | exact Below.refl _ _ | apply below_alloc | apply pw_below_drewN | apply below_drew1 | (refine Below.setCell ?_ (by first | (simp; done) | (simp; omega) | omega) _) ))⟩
    · have b1 : (kd == 0) = false := by rw [beq_eq_false_iff_ne]; exact h1
      clear h1 hb2
      go_enter Tryd.func160, Tryd.ntmps160
      go_wp2_with fail
      go_ret
      exact ⟨rfl, (by repeat (first | exact Below.refl _ _ | apply below_alloc | apply pw_below_drewN | apply below_drew1 | (refine Below.setCell ?_ (by first | (simp; done) | (simp; omega) | omega) _) ))⟩
end Go.Proofs.YtijdghplfhfpaaaDoor.H

/- Scripts: are commands in form? The program's walks. -/
namespace Go.Proofs.YtijdghplfhfpaaaDoor.H
open Go.RowKit Go.Proofs.YtijdghplfhfpaaaDoorW.PrintWords Go.Proofs.YtijdghplfhfpaaaDoorW.PrintLast Go.Proofs.YtijdghplfhfpaaaDoor.U
set_option linter.unusedVariables false
set_option linter.unusedSimpArgs false
def ChC (n : Nat) : Prop := ∀ (x : CmdN n) (cs : List Value) (dp : Int) (w : World), (kCmd n).K w x cs → wtC n x ≤ 1048576 → 0 ≤ dp → dp ≤ 10 →
  Calls Tryd.prog 111 #[.agg cs.toArray, .int .i64 dp] w fun e w' => e = .returned (.int .i64 (checkC n x dp)) ∧ Below w.heap.size w w'
def ChL (n : Nat) : Prop := ∀ (A : Option Addr) (c : Nat) (l : List (CmdN n)) (dp : Int) (w : World), (kCmd n).C w A l.length l → (l.map (wtC n)).sum ≤ 1048576 → 0 ≤ dp → dp ≤ 10 →
  Calls Tryd.prog 71 #[.slice A l.length c, .int .i64 dp] w fun e w' => e = .returned (.int .i64 (errs (fun x => checkC n x dp) l)) ∧ Below w.heap.size w w'
set_option maxHeartbeats 1000000 in
set_option maxRecDepth 100000 in
theorem checkAll_of (n : Nat) (IH : ChC n) : ChL n := by
  intro A c l dp w hr hw h0 h10
  have h63 := hr.2.1
  have hel := Lib.hid (sum_mem (wtC n) l)
  replace hw := Lib.hid hw
  replace hr := Lib.hid hr
  replace IH := Lib.hid IH
  generalize hR : errs (fun x => checkC n x dp) l = R
  replace hR : errs (fun x => checkC n x dp) (l.drop 0) = R := hR
  replace hR := Lib.hid hR
  go_enter Tryd.func71, Tryd.ntmps71
  go_wp2_with fail
  replace hR := hR.out
  go_loopw [10] (fun i wr => ∃ k : Nat, k ≤ l.length ∧ i = .int .i64 k ∧ errs (fun x => checkC n x dp) (l.drop k) = R ∧ Below w.heap.size w wr) (fun i _ => l.length - (intOf i).toNat)
  case atStart => exact ⟨0, Nat.zero_le _, rfl, hR, Below.refl _ _⟩
  case round =>
    clear hR
    obtain ⟨k, hk, rfl, hR, hB⟩ := hrel
    by_cases hlt : k < l.length
    · obtain ⟨ad, cx, e1', hKx, hx0, hxj⟩ := elem_at (Kd.C_below hr.out hB) (kCmd_sz n) k hlt
      subst e1'
      obtain ⟨X1, l1, C1, x2, x3, x4, X5, l5, C5, X6, l6, C6, x7, x8, X9, l9, C9, X10, l10, C10, X11, l11, C11, rfl⟩ := cmdN_K hKx
      have q0 := hx0 _ rfl; have q1 := hxj 1 _ (by decide) rfl; have q2 := hxj 2 _ (by decide) rfl; have q3 := hxj 3 _ (by decide) rfl; have q4 := hxj 4 _ (by decide) rfl; have q5 := hxj 5 _ (by decide) rfl; have q6 := hxj 6 _ (by decide) rfl; have q7 := hxj 7 _ (by decide) rfl; have q8 := hxj 8 _ (by decide) rfl; have q9 := hxj 9 _ (by decide) rfl; have q10 := hxj 10 _ (by decide) rfl; have q11 := hxj 11 _ (by decide) rfl
      clear hx0 hxj
      have hbad := fun h => errs_bad (f := fun x => checkC n x dp) hlt h
      have hgood := fun h => errs_good (f := fun x => checkC n x dp) hlt h
      rw [hR] at hbad hgood
      clear hR
      have HX := Lib.hid (fun W (h : Below wr.heap.size wr W) => IH.out l[k] _ dp W ((kCmd n).K_below h hKx) (Nat.le_trans (hel.out k hlt) hw.out) h0 h10)
      generalize checkC n l[k] dp = v at *
      generalize kindC n l[k] = x0 at *
      replace hbad := Lib.hid hbad
      replace hgood := Lib.hid hgood
      clear hKx
      have i0 : (0 : Int) ≤ (k : Int) := by omega
      have i1 : (k : Int) < (l.length : Int) := by omega
      have hO := Blk.made wr #[.int .i64 x0, .slice X1 l1 C1, .int .i64 x2, .int .i64 x3, .int .i64 x4, .slice X5 l5 C5, .slice X6 l6 C6, .bool x7, .int .i64 x8, .slice X9 l9 C9, .slice X10 l10 C10, .slice X11 l11 C11] 109
      have o0 := hO.at 0 _ rfl
      have o1 := hO.at 1 _ rfl
      have o2 := hO.at 2 _ rfl
      have o3 := hO.at 3 _ rfl
      have o4 := hO.at 4 _ rfl
      have o5 := hO.at 5 _ rfl
      have o6 := hO.at 6 _ rfl
      have o7 := hO.at 7 _ rfl
      have o8 := hO.at 8 _ rfl
      have o9 := hO.at 9 _ rfl
      have o10 := hO.at 10 _ rfl
      have o11 := hO.at 11 _ rfl
      by_cases hv : v = 0
      · subst hv
        go_wp2_with fail
        refine (HX.out _ ((Below.refl _ _).alloc (Nat.le_refl _) _)).mono ?_
        rintro e w5 ⟨rfl, hb5⟩
        have hB5 : Below w.heap.size w w5 := (hB.alloc hB.size _).trans (hb5.mono (hB.alloc hB.size _).size)
        go_wp2_with fail
        go_roundw
        case rel => exact ⟨k + 1, hlt, by go_num, (hgood.out (by trivial)).symm, hB5⟩
        case measure => simp [intOf]; omega
      · have hvb : (v != 0) = true := bne_iff_ne.mpr hv
        have hRv := Lib.hid (hbad.out hv)
        clear hv
        go_wp2_with fail
        refine (HX.out _ ((Below.refl _ _).alloc (Nat.le_refl _) _)).mono ?_
        rintro e w5 ⟨rfl, hb5⟩
        have hB5 : Below w.heap.size w w5 := (hB.alloc hB.size _).trans (hb5.mono (hB.alloc hB.size _).size)
        go_wp2_with fail
        go_ret
        exact ⟨by rw [hRv.out]; rfl, hB5⟩
    · obtain rfl : k = l.length := by omega
      rw [errs_end] at hR
      subst hR
      have i1 : ¬ (l.length : Int) < (l.length : Int) := by omega
      go_wp2_with fail
      go_ret
      exact ⟨rfl, hB⟩
set_option maxHeartbeats 1000000 in
set_option maxRecDepth 100000 in
theorem cc_kind (n : Nat) (kd : Int) (A0 : Option Addr) (c0 : Nat) (tx : List ByteArray) (tk mt pt : Int) (A1 : Option Addr) (c1 : Nat) (nm : List ByteArray) (A2 : Option Addr) (c2 : Nat) (ks : List ByteArray) (ov : Bool) (lm : Int) (A3 : Option Addr) (c3 : Nat) (ts : List (TestN n)) (A4 : Option Addr) (c4 : Nat) (th : List (CmdN n)) (A5 : Option Addr) (c5 : Nat) (el : List (CmdN n)) (dp : Int) (w : World) (h : kd < 1 ∨ 10 < kd) : Calls Tryd.prog 111 #[.agg #[.int .i64 kd, .slice A0 tx.length c0, .int .i64 tk, .int .i64 mt, .int .i64 pt, .slice A1 nm.length c1, .slice A2 ks.length c2, .bool ov, .int .i64 lm, .slice A3 ts.length c3, .slice A4 th.length c4, .slice A5 el.length c5], .int .i64 dp] w (fun e w' => e = .returned (.int .i64 2) ∧ Below w.heap.size w w') := by
  have hP : Blk (w.alloc (.cells #[.int .i64 kd, .slice A0 tx.length c0, .int .i64 tk, .int .i64 mt, .int .i64 pt, .slice A1 nm.length c1, .slice A2 ks.length c2, .bool ov, .int .i64 lm, .slice A3 ts.length c3, .slice A4 th.length c4, .slice A5 el.length c5] 109)) w.heap.size [.int .i64 kd, .slice A0 tx.length c0, .int .i64 tk, .int .i64 mt, .int .i64 pt, .slice A1 nm.length c1, .slice A2 ks.length c2, .bool ov, .int .i64 lm, .slice A3 ts.length c3, .slice A4 th.length c4, .slice A5 el.length c5] := Blk.made w _ _
  have hB : Below w.heap.size w (w.alloc (.cells #[.int .i64 kd, .slice A0 tx.length c0, .int .i64 tk, .int .i64 mt, .int .i64 pt, .slice A1 nm.length c1, .slice A2 ks.length c2, .bool ov, .int .i64 lm, .slice A3 ts.length c3, .slice A4 th.length c4, .slice A5 el.length c5] 109)) := (by repeat (first | exact Below.refl _ _ | apply below_alloc | apply pw_below_drewN | apply below_drew1 | (refine Below.setCell ?_ (by first | (simp; done) | (simp; omega) | omega) _) ))
  have p0 := (hP).at 0 _ rfl
  have p1 := (hP).at 1 _ rfl
  have p2 := (hP).at 2 _ rfl
  have p3 := (hP).at 3 _ rfl
  have p4 := (hP).at 4 _ rfl
  have p5 := (hP).at 5 _ rfl
  have p6 := (hP).at 6 _ rfl
  have p7 := (hP).at 7 _ rfl
  have p8 := (hP).at 8 _ rfl
  have p9 := (hP).at 9 _ rfl
  have p10 := (hP).at 10 _ rfl
  have p11 := (hP).at 11 _ rfl
  by_cases h1 : kd < 1
  · clear h
    go_enter Tryd.func111, Tryd.ntmps111
    go_wp2_with fail
    go_ret
    exact ⟨rfl, (by repeat (first | exact Below.refl _ _ | apply below_alloc | apply pw_below_drewN | apply below_drew1 | (refine Below.setCell ?_ (by first | (simp; done) | (simp; omega) | omega) _) ))⟩
  · have h2 : 10 < kd := by omega
    clear h
    go_enter Tryd.func111, Tryd.ntmps111
    go_wp2_with fail
    go_ret
    exact ⟨rfl, (by repeat (first | exact Below.refl _ _ | apply below_alloc | apply pw_below_drewN | apply below_drew1 | (refine Below.setCell ?_ (by first | (simp; done) | (simp; omega) | omega) _) ))⟩
set_option maxHeartbeats 1000000 in
set_option maxRecDepth 100000 in
theorem cc_deep (n : Nat) (kd : Int) (A0 : Option Addr) (c0 : Nat) (tx : List ByteArray) (tk mt pt : Int) (A1 : Option Addr) (c1 : Nat) (nm : List ByteArray) (A2 : Option Addr) (c2 : Nat) (ks : List ByteArray) (ov : Bool) (lm : Int) (A3 : Option Addr) (c3 : Nat) (ts : List (TestN n)) (A4 : Option Addr) (c4 : Nat) (th : List (CmdN n)) (A5 : Option Addr) (c5 : Nat) (el : List (CmdN n)) (dp : Int) (w : World) (h1 : ¬ kd < 1) (h2 : ¬ 10 < kd) (hd : 6 < dp) : Calls Tryd.prog 111 #[.agg #[.int .i64 kd, .slice A0 tx.length c0, .int .i64 tk, .int .i64 mt, .int .i64 pt, .slice A1 nm.length c1, .slice A2 ks.length c2, .bool ov, .int .i64 lm, .slice A3 ts.length c3, .slice A4 th.length c4, .slice A5 el.length c5], .int .i64 dp] w (fun e w' => e = .returned (.int .i64 1) ∧ Below w.heap.size w w') := by
  have hP : Blk (w.alloc (.cells #[.int .i64 kd, .slice A0 tx.length c0, .int .i64 tk, .int .i64 mt, .int .i64 pt, .slice A1 nm.length c1, .slice A2 ks.length c2, .bool ov, .int .i64 lm, .slice A3 ts.length c3, .slice A4 th.length c4, .slice A5 el.length c5] 109)) w.heap.size [.int .i64 kd, .slice A0 tx.length c0, .int .i64 tk, .int .i64 mt, .int .i64 pt, .slice A1 nm.length c1, .slice A2 ks.length c2, .bool ov, .int .i64 lm, .slice A3 ts.length c3, .slice A4 th.length c4, .slice A5 el.length c5] := Blk.made w _ _
  have hB : Below w.heap.size w (w.alloc (.cells #[.int .i64 kd, .slice A0 tx.length c0, .int .i64 tk, .int .i64 mt, .int .i64 pt, .slice A1 nm.length c1, .slice A2 ks.length c2, .bool ov, .int .i64 lm, .slice A3 ts.length c3, .slice A4 th.length c4, .slice A5 el.length c5] 109)) := (by repeat (first | exact Below.refl _ _ | apply below_alloc | apply pw_below_drewN | apply below_drew1 | (refine Below.setCell ?_ (by first | (simp; done) | (simp; omega) | omega) _) ))
  have p0 := (hP).at 0 _ rfl
  have p1 := (hP).at 1 _ rfl
  have p2 := (hP).at 2 _ rfl
  have p3 := (hP).at 3 _ rfl
  have p4 := (hP).at 4 _ rfl
  have p5 := (hP).at 5 _ rfl
  have p6 := (hP).at 6 _ rfl
  have p7 := (hP).at 7 _ rfl
  have p8 := (hP).at 8 _ rfl
  have p9 := (hP).at 9 _ rfl
  have p10 := (hP).at 10 _ rfl
  have p11 := (hP).at 11 _ rfl
  go_enter Tryd.func111, Tryd.ntmps111
  go_wp2_with fail
  go_ret
  exact ⟨rfl, (by repeat (first | exact Below.refl _ _ | apply below_alloc | apply pw_below_drewN | apply below_drew1 | (refine Below.setCell ?_ (by first | (simp; done) | (simp; omega) | omega) _) ))⟩
set_option maxHeartbeats 1000000 in
set_option maxRecDepth 100000 in
theorem cc_texts (n : Nat) (kd : Int) (A0 : Option Addr) (c0 : Nat) (tx : List ByteArray) (tk mt pt : Int) (A1 : Option Addr) (c1 : Nat) (nm : List ByteArray) (A2 : Option Addr) (c2 : Nat) (ks : List ByteArray) (ov : Bool) (lm : Int) (A3 : Option Addr) (c3 : Nat) (ts : List (TestN n)) (A4 : Option Addr) (c4 : Nat) (th : List (CmdN n)) (A5 : Option Addr) (c5 : Nat) (el : List (CmdN n)) (dp : Int) (w : World) (h2 : kd = 2) (hd : ¬ 6 < dp) (ht : 0 < tx.length) : Calls Tryd.prog 111 #[.agg #[.int .i64 kd, .slice A0 tx.length c0, .int .i64 tk, .int .i64 mt, .int .i64 pt, .slice A1 nm.length c1, .slice A2 ks.length c2, .bool ov, .int .i64 lm, .slice A3 ts.length c3, .slice A4 th.length c4, .slice A5 el.length c5], .int .i64 dp] w (fun e w' => e = .returned (.int .i64 3) ∧ Below w.heap.size w w') := by
  have hP : Blk (w.alloc (.cells #[.int .i64 kd, .slice A0 tx.length c0, .int .i64 tk, .int .i64 mt, .int .i64 pt, .slice A1 nm.length c1, .slice A2 ks.length c2, .bool ov, .int .i64 lm, .slice A3 ts.length c3, .slice A4 th.length c4, .slice A5 el.length c5] 109)) w.heap.size [.int .i64 kd, .slice A0 tx.length c0, .int .i64 tk, .int .i64 mt, .int .i64 pt, .slice A1 nm.length c1, .slice A2 ks.length c2, .bool ov, .int .i64 lm, .slice A3 ts.length c3, .slice A4 th.length c4, .slice A5 el.length c5] := Blk.made w _ _
  have hB : Below w.heap.size w (w.alloc (.cells #[.int .i64 kd, .slice A0 tx.length c0, .int .i64 tk, .int .i64 mt, .int .i64 pt, .slice A1 nm.length c1, .slice A2 ks.length c2, .bool ov, .int .i64 lm, .slice A3 ts.length c3, .slice A4 th.length c4, .slice A5 el.length c5] 109)) := (by repeat (first | exact Below.refl _ _ | apply below_alloc | apply pw_below_drewN | apply below_drew1 | (refine Below.setCell ?_ (by first | (simp; done) | (simp; omega) | omega) _) ))
  have p0 := (hP).at 0 _ rfl
  have p1 := (hP).at 1 _ rfl
  have p2 := (hP).at 2 _ rfl
  have p3 := (hP).at 3 _ rfl
  have p4 := (hP).at 4 _ rfl
  have p5 := (hP).at 5 _ rfl
  have p6 := (hP).at 6 _ rfl
  have p7 := (hP).at 7 _ rfl
  have p8 := (hP).at 8 _ rfl
  have p9 := (hP).at 9 _ rfl
  have p10 := (hP).at 10 _ rfl
  have p11 := (hP).at 11 _ rfl
  have e1 : ¬ kd < 1 := by omega
  have e2 : ¬ 10 < kd := by omega
  have e3 : (kd == 2) = true := by rw [beq_iff_eq]; exact h2
  have e4 : (0 : Int) < (tx.length : Int) := by omega
  clear h2
  go_enter Tryd.func111, Tryd.ntmps111
  go_wp2_with fail
  go_ret
  exact ⟨rfl, (by repeat (first | exact Below.refl _ _ | apply below_alloc | apply pw_below_drewN | apply below_drew1 | (refine Below.setCell ?_ (by first | (simp; done) | (simp; omega) | omega) _) ))⟩
end Go.Proofs.YtijdghplfhfpaaaDoor.H

/- Scripts: is an if in form? The program's walk. -/
namespace Go.Proofs.YtijdghplfhfpaaaDoor.H
open Go.RowKit Go.Proofs.YtijdghplfhfpaaaDoorW.PrintWords Go.Proofs.YtijdghplfhfpaaaDoorW.PrintLast Go.Proofs.YtijdghplfhfpaaaDoor.U
set_option linter.unusedVariables false
set_option linter.unusedSimpArgs false
set_option maxHeartbeats 1000000 in
set_option maxRecDepth 100000 in
theorem cc_t (n : Nat) (kd : Int) (A0 : Option Addr) (c0 : Nat) (tx : List ByteArray) (tk mt pt : Int) (A1 : Option Addr) (c1 : Nat) (nm : List ByteArray) (A2 : Option Addr) (c2 : Nat) (ks : List ByteArray) (ov : Bool) (lm : Int) (A3 : Option Addr) (c3 : Nat) (ts : List (TestN n)) (A4 : Option Addr) (c4 : Nat) (th : List (CmdN n)) (A5 : Option Addr) (c5 : Nat) (el : List (CmdN n)) (dp : Int) (w : World) (vt : Int) (h2 : kd = 2) (h0 : 0 ≤ dp) (hd : ¬ 6 < dp) (ht : tx.length = 0) (hv : ¬ vt = 0) (HT : ∀ w', Below w.heap.size w w' → Calls Tryd.prog 159 #[.agg #[.int .i64 tk, .int .i64 mt, .int .i64 pt, .slice A1 nm.length c1, .slice A2 ks.length c2, .bool ov, .int .i64 lm, .slice A3 ts.length c3], .int .i64 1] w' fun e w2 => e = .returned (.int .i64 vt) ∧ Below w'.heap.size w' w2) : Calls Tryd.prog 111 #[.agg #[.int .i64 kd, .slice A0 tx.length c0, .int .i64 tk, .int .i64 mt, .int .i64 pt, .slice A1 nm.length c1, .slice A2 ks.length c2, .bool ov, .int .i64 lm, .slice A3 ts.length c3, .slice A4 th.length c4, .slice A5 el.length c5], .int .i64 dp] w (fun e w' => e = .returned (.int .i64 vt) ∧ Below w.heap.size w w') := by
  replace HT := Lib.hid HT
  have hvb : (vt != 0) = true := bne_iff_ne.mpr hv
  clear hv
  have e1 : ¬ kd < 1 := by omega
  have e2 : ¬ 10 < kd := by omega
  have e3 : (kd == 2) = true := by rw [beq_iff_eq]; exact h2
  have e4 : ¬ (0 : Int) < (tx.length : Int) := by omega
  have e5 : ¬ 0 < tx.length := by omega
  clear h2 ht
  have hP : Blk (w.alloc (.cells #[.int .i64 kd, .slice A0 tx.length c0, .int .i64 tk, .int .i64 mt, .int .i64 pt, .slice A1 nm.length c1, .slice A2 ks.length c2, .bool ov, .int .i64 lm, .slice A3 ts.length c3, .slice A4 th.length c4, .slice A5 el.length c5] 109)) w.heap.size [.int .i64 kd, .slice A0 tx.length c0, .int .i64 tk, .int .i64 mt, .int .i64 pt, .slice A1 nm.length c1, .slice A2 ks.length c2, .bool ov, .int .i64 lm, .slice A3 ts.length c3, .slice A4 th.length c4, .slice A5 el.length c5] := Blk.made w _ _
  have hB : Below w.heap.size w (w.alloc (.cells #[.int .i64 kd, .slice A0 tx.length c0, .int .i64 tk, .int .i64 mt, .int .i64 pt, .slice A1 nm.length c1, .slice A2 ks.length c2, .bool ov, .int .i64 lm, .slice A3 ts.length c3, .slice A4 th.length c4, .slice A5 el.length c5] 109)) := (by repeat (first | exact Below.refl _ _ | apply below_alloc | apply pw_below_drewN | apply below_drew1 | (refine Below.setCell ?_ (by first | (simp; done) | (simp; omega) | omega) _) ))
  have p0 := (hP).at 0 _ rfl
  have p1 := (hP).at 1 _ rfl
  have p2 := (hP).at 2 _ rfl
  have p3 := (hP).at 3 _ rfl
  have p4 := (hP).at 4 _ rfl
  have p5 := (hP).at 5 _ rfl
  have p6 := (hP).at 6 _ rfl
  have p7 := (hP).at 7 _ rfl
  have p8 := (hP).at 8 _ rfl
  have p9 := (hP).at 9 _ rfl
  have p10 := (hP).at 10 _ rfl
  have p11 := (hP).at 11 _ rfl
  go_enter Tryd.func111, Tryd.ntmps111
  go_wp2_with fail
  refine (HT.out _ hB).mono ?_
  rintro e w1 ⟨rfl, hb1⟩
  have hP1 := hP.below hb1 hP.lt
  have hB1 := hB.trans (hb1.mono hB.size)
  clear hP hB p0 p1 p2 p3 p4 p5 p6 p7 p8 p9 p10 p11 hb1
  have p0 := (hP1).at 0 _ rfl
  have p1 := (hP1).at 1 _ rfl
  have p2 := (hP1).at 2 _ rfl
  have p3 := (hP1).at 3 _ rfl
  have p4 := (hP1).at 4 _ rfl
  have p5 := (hP1).at 5 _ rfl
  have p6 := (hP1).at 6 _ rfl
  have p7 := (hP1).at 7 _ rfl
  have p8 := (hP1).at 8 _ rfl
  have p9 := (hP1).at 9 _ rfl
  have p10 := (hP1).at 10 _ rfl
  have p11 := (hP1).at 11 _ rfl
  go_wp2_with fail
  go_ret
  exact ⟨rfl, hB1⟩
set_option maxHeartbeats 1000000 in
set_option maxRecDepth 100000 in
theorem cc_h (n : Nat) (kd : Int) (A0 : Option Addr) (c0 : Nat) (tx : List ByteArray) (tk mt pt : Int) (A1 : Option Addr) (c1 : Nat) (nm : List ByteArray) (A2 : Option Addr) (c2 : Nat) (ks : List ByteArray) (ov : Bool) (lm : Int) (A3 : Option Addr) (c3 : Nat) (ts : List (TestN n)) (A4 : Option Addr) (c4 : Nat) (th : List (CmdN n)) (A5 : Option Addr) (c5 : Nat) (el : List (CmdN n)) (dp : Int) (w : World) (vh : Int) (h2 : kd = 2) (h0 : 0 ≤ dp) (hd : ¬ 6 < dp) (ht : tx.length = 0) (hv : ¬ vh = 0) (vt : Int) (hvt : vt = 0) (HT : ∀ w', Below w.heap.size w w' → Calls Tryd.prog 159 #[.agg #[.int .i64 tk, .int .i64 mt, .int .i64 pt, .slice A1 nm.length c1, .slice A2 ks.length c2, .bool ov, .int .i64 lm, .slice A3 ts.length c3], .int .i64 1] w' fun e w2 => e = .returned (.int .i64 vt) ∧ Below w'.heap.size w' w2) (HH : ∀ w', Below w.heap.size w w' → Calls Tryd.prog 71 #[.slice A4 th.length c4, .int .i64 (dp + 1)] w' fun e w2 => e = .returned (.int .i64 vh) ∧ Below w'.heap.size w' w2) : Calls Tryd.prog 111 #[.agg #[.int .i64 kd, .slice A0 tx.length c0, .int .i64 tk, .int .i64 mt, .int .i64 pt, .slice A1 nm.length c1, .slice A2 ks.length c2, .bool ov, .int .i64 lm, .slice A3 ts.length c3, .slice A4 th.length c4, .slice A5 el.length c5], .int .i64 dp] w (fun e w' => e = .returned (.int .i64 vh) ∧ Below w.heap.size w w') := by
  replace HT := Lib.hid HT
  replace HH := Lib.hid HH
  have hvb : (vh != 0) = true := bne_iff_ne.mpr hv
  clear hv
  subst hvt
  skip
  have e1 : ¬ kd < 1 := by omega
  have e2 : ¬ 10 < kd := by omega
  have e3 : (kd == 2) = true := by rw [beq_iff_eq]; exact h2
  have e4 : ¬ (0 : Int) < (tx.length : Int) := by omega
  have e5 : ¬ 0 < tx.length := by omega
  clear h2 ht
  have hP : Blk (w.alloc (.cells #[.int .i64 kd, .slice A0 tx.length c0, .int .i64 tk, .int .i64 mt, .int .i64 pt, .slice A1 nm.length c1, .slice A2 ks.length c2, .bool ov, .int .i64 lm, .slice A3 ts.length c3, .slice A4 th.length c4, .slice A5 el.length c5] 109)) w.heap.size [.int .i64 kd, .slice A0 tx.length c0, .int .i64 tk, .int .i64 mt, .int .i64 pt, .slice A1 nm.length c1, .slice A2 ks.length c2, .bool ov, .int .i64 lm, .slice A3 ts.length c3, .slice A4 th.length c4, .slice A5 el.length c5] := Blk.made w _ _
  have hB : Below w.heap.size w (w.alloc (.cells #[.int .i64 kd, .slice A0 tx.length c0, .int .i64 tk, .int .i64 mt, .int .i64 pt, .slice A1 nm.length c1, .slice A2 ks.length c2, .bool ov, .int .i64 lm, .slice A3 ts.length c3, .slice A4 th.length c4, .slice A5 el.length c5] 109)) := (by repeat (first | exact Below.refl _ _ | apply below_alloc | apply pw_below_drewN | apply below_drew1 | (refine Below.setCell ?_ (by first | (simp; done) | (simp; omega) | omega) _) ))
  have p0 := (hP).at 0 _ rfl
  have p1 := (hP).at 1 _ rfl
  have p2 := (hP).at 2 _ rfl
  have p3 := (hP).at 3 _ rfl
  have p4 := (hP).at 4 _ rfl
  have p5 := (hP).at 5 _ rfl
  have p6 := (hP).at 6 _ rfl
  have p7 := (hP).at 7 _ rfl
  have p8 := (hP).at 8 _ rfl
  have p9 := (hP).at 9 _ rfl
  have p10 := (hP).at 10 _ rfl
  have p11 := (hP).at 11 _ rfl
  go_enter Tryd.func111, Tryd.ntmps111
  go_wp2_with fail
  refine (HT.out _ hB).mono ?_
  rintro e w1 ⟨rfl, hb1⟩
  have hP1 := hP.below hb1 hP.lt
  have hB1 := hB.trans (hb1.mono hB.size)
  clear hP hB p0 p1 p2 p3 p4 p5 p6 p7 p8 p9 p10 p11 hb1
  have p0 := (hP1).at 0 _ rfl
  have p1 := (hP1).at 1 _ rfl
  have p2 := (hP1).at 2 _ rfl
  have p3 := (hP1).at 3 _ rfl
  have p4 := (hP1).at 4 _ rfl
  have p5 := (hP1).at 5 _ rfl
  have p6 := (hP1).at 6 _ rfl
  have p7 := (hP1).at 7 _ rfl
  have p8 := (hP1).at 8 _ rfl
  have p9 := (hP1).at 9 _ rfl
  have p10 := (hP1).at 10 _ rfl
  have p11 := (hP1).at 11 _ rfl
  go_wp2_with fail
  refine (HH.out _ hB1).mono ?_
  rintro e w2 ⟨rfl, hb2⟩
  have hP2 := hP1.below hb2 hP1.lt
  have hB2 := hB1.trans (hb2.mono hB1.size)
  clear hP1 hB1 p0 p1 p2 p3 p4 p5 p6 p7 p8 p9 p10 p11 hb2
  have p0 := (hP2).at 0 _ rfl
  have p1 := (hP2).at 1 _ rfl
  have p2 := (hP2).at 2 _ rfl
  have p3 := (hP2).at 3 _ rfl
  have p4 := (hP2).at 4 _ rfl
  have p5 := (hP2).at 5 _ rfl
  have p6 := (hP2).at 6 _ rfl
  have p7 := (hP2).at 7 _ rfl
  have p8 := (hP2).at 8 _ rfl
  have p9 := (hP2).at 9 _ rfl
  have p10 := (hP2).at 10 _ rfl
  have p11 := (hP2).at 11 _ rfl
  go_wp2_with fail
  go_ret
  exact ⟨rfl, hB2⟩
set_option maxHeartbeats 1000000 in
set_option maxRecDepth 100000 in
theorem cc_e (n : Nat) (kd : Int) (A0 : Option Addr) (c0 : Nat) (tx : List ByteArray) (tk mt pt : Int) (A1 : Option Addr) (c1 : Nat) (nm : List ByteArray) (A2 : Option Addr) (c2 : Nat) (ks : List ByteArray) (ov : Bool) (lm : Int) (A3 : Option Addr) (c3 : Nat) (ts : List (TestN n)) (A4 : Option Addr) (c4 : Nat) (th : List (CmdN n)) (A5 : Option Addr) (c5 : Nat) (el : List (CmdN n)) (dp : Int) (w : World) (ve : Int) (h2 : kd = 2) (h0 : 0 ≤ dp) (hd : ¬ 6 < dp) (ht : tx.length = 0) (hn : ¬ el.length = 1) (vt vh : Int) (hvt : vt = 0) (hvh : vh = 0) (HT : ∀ w', Below w.heap.size w w' → Calls Tryd.prog 159 #[.agg #[.int .i64 tk, .int .i64 mt, .int .i64 pt, .slice A1 nm.length c1, .slice A2 ks.length c2, .bool ov, .int .i64 lm, .slice A3 ts.length c3], .int .i64 1] w' fun e w2 => e = .returned (.int .i64 vt) ∧ Below w'.heap.size w' w2) (HH : ∀ w', Below w.heap.size w w' → Calls Tryd.prog 71 #[.slice A4 th.length c4, .int .i64 (dp + 1)] w' fun e w2 => e = .returned (.int .i64 vh) ∧ Below w'.heap.size w' w2) (HE : ∀ w', Below w.heap.size w w' → Calls Tryd.prog 71 #[.slice A5 el.length c5, .int .i64 (dp + 1)] w' fun e w2 => e = .returned (.int .i64 ve) ∧ Below w'.heap.size w' w2) : Calls Tryd.prog 111 #[.agg #[.int .i64 kd, .slice A0 tx.length c0, .int .i64 tk, .int .i64 mt, .int .i64 pt, .slice A1 nm.length c1, .slice A2 ks.length c2, .bool ov, .int .i64 lm, .slice A3 ts.length c3, .slice A4 th.length c4, .slice A5 el.length c5], .int .i64 dp] w (fun e w' => e = .returned (.int .i64 ve) ∧ Below w.heap.size w w') := by
  replace HT := Lib.hid HT
  replace HH := Lib.hid HH
  replace HE := Lib.hid HE
  subst hvt hvh
  have hnb : ((el.length : Int) == 1) = false := by rw [beq_eq_false_iff_ne]; omega
  clear hn
  skip
  have e1 : ¬ kd < 1 := by omega
  have e2 : ¬ 10 < kd := by omega
  have e3 : (kd == 2) = true := by rw [beq_iff_eq]; exact h2
  have e4 : ¬ (0 : Int) < (tx.length : Int) := by omega
  have e5 : ¬ 0 < tx.length := by omega
  clear h2 ht
  have hP : Blk (w.alloc (.cells #[.int .i64 kd, .slice A0 tx.length c0, .int .i64 tk, .int .i64 mt, .int .i64 pt, .slice A1 nm.length c1, .slice A2 ks.length c2, .bool ov, .int .i64 lm, .slice A3 ts.length c3, .slice A4 th.length c4, .slice A5 el.length c5] 109)) w.heap.size [.int .i64 kd, .slice A0 tx.length c0, .int .i64 tk, .int .i64 mt, .int .i64 pt, .slice A1 nm.length c1, .slice A2 ks.length c2, .bool ov, .int .i64 lm, .slice A3 ts.length c3, .slice A4 th.length c4, .slice A5 el.length c5] := Blk.made w _ _
  have hB : Below w.heap.size w (w.alloc (.cells #[.int .i64 kd, .slice A0 tx.length c0, .int .i64 tk, .int .i64 mt, .int .i64 pt, .slice A1 nm.length c1, .slice A2 ks.length c2, .bool ov, .int .i64 lm, .slice A3 ts.length c3, .slice A4 th.length c4, .slice A5 el.length c5] 109)) := (by repeat (first | exact Below.refl _ _ | apply below_alloc | apply pw_below_drewN | apply below_drew1 | (refine Below.setCell ?_ (by first | (simp; done) | (simp; omega) | omega) _) ))
  have p0 := (hP).at 0 _ rfl
  have p1 := (hP).at 1 _ rfl
  have p2 := (hP).at 2 _ rfl
  have p3 := (hP).at 3 _ rfl
  have p4 := (hP).at 4 _ rfl
  have p5 := (hP).at 5 _ rfl
  have p6 := (hP).at 6 _ rfl
  have p7 := (hP).at 7 _ rfl
  have p8 := (hP).at 8 _ rfl
  have p9 := (hP).at 9 _ rfl
  have p10 := (hP).at 10 _ rfl
  have p11 := (hP).at 11 _ rfl
  go_enter Tryd.func111, Tryd.ntmps111
  go_wp2_with fail
  refine (HT.out _ hB).mono ?_
  rintro e w1 ⟨rfl, hb1⟩
  have hP1 := hP.below hb1 hP.lt
  have hB1 := hB.trans (hb1.mono hB.size)
  clear hP hB p0 p1 p2 p3 p4 p5 p6 p7 p8 p9 p10 p11 hb1
  have p0 := (hP1).at 0 _ rfl
  have p1 := (hP1).at 1 _ rfl
  have p2 := (hP1).at 2 _ rfl
  have p3 := (hP1).at 3 _ rfl
  have p4 := (hP1).at 4 _ rfl
  have p5 := (hP1).at 5 _ rfl
  have p6 := (hP1).at 6 _ rfl
  have p7 := (hP1).at 7 _ rfl
  have p8 := (hP1).at 8 _ rfl
  have p9 := (hP1).at 9 _ rfl
  have p10 := (hP1).at 10 _ rfl
  have p11 := (hP1).at 11 _ rfl
  go_wp2_with fail
  refine (HH.out _ hB1).mono ?_
  rintro e w2 ⟨rfl, hb2⟩
  have hP2 := hP1.below hb2 hP1.lt
  have hB2 := hB1.trans (hb2.mono hB1.size)
  clear hP1 hB1 p0 p1 p2 p3 p4 p5 p6 p7 p8 p9 p10 p11 hb2
  have p0 := (hP2).at 0 _ rfl
  have p1 := (hP2).at 1 _ rfl
  have p2 := (hP2).at 2 _ rfl
  have p3 := (hP2).at 3 _ rfl
  have p4 := (hP2).at 4 _ rfl
  have p5 := (hP2).at 5 _ rfl
  have p6 := (hP2).at 6 _ rfl
  have p7 := (hP2).at 7 _ rfl
  have p8 := (hP2).at 8 _ rfl
  have p9 := (hP2).at 9 _ rfl
  have p10 := (hP2).at 10 _ rfl
  have p11 := (hP2).at 11 _ rfl
  go_wp2_with fail
  refine (HE.out _ hB2).mono ?_
  rintro e w3 ⟨rfl, hb3⟩
  go_wp2_with fail
  go_ret
  exact ⟨rfl, hB2.trans (hb3.mono hB2.size)⟩
end Go.Proofs.YtijdghplfhfpaaaDoor.H
