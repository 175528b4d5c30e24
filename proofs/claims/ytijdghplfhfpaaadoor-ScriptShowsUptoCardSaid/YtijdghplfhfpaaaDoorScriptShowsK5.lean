/- The claim ScriptShowsUptoCardSaid, part 5 of 8. -/
import Derived.Test.YtijdghplfhfpaaaDoorScriptShowsK4
import Derived.Test.YtijdghplfhfpaaaDoorScriptShowsK3
import Derived.Test.YtijdghplfhfpaaaDoorScriptShowsK1
import Derived.Deep.QuietTactic
import Derived.BigQuiet
/- Scripts: is a command in form? The program's walk: what is else; what is no if. -/
namespace Go.Proofs.YtijdghplfhfpaaaDoor.H
open Go.RowKit Go.Proofs.YtijdghplfhfpaaaDoorW.PrintWords Go.Proofs.YtijdghplfhfpaaaDoorW.PrintLast Go.Proofs.YtijdghplfhfpaaaDoor.U
set_option linter.unusedVariables false
set_option linter.unusedSimpArgs false
set_option maxHeartbeats 1000000 in
set_option maxRecDepth 100000 in
theorem cc_e1 (n : Nat) (kd : Int) (A0 : Option Addr) (c0 : Nat) (tx : List ByteArray) (tk mt pt : Int) (A1 : Option Addr) (c1 : Nat) (nm : List ByteArray) (A2 : Option Addr) (c2 : Nat) (ks : List ByteArray) (ov : Bool) (lm : Int) (A3 : Option Addr) (c3 : Nat) (ts : List (TestN n)) (A4 : Option Addr) (c4 : Nat) (th : List (CmdN n)) (A5 : Option Addr) (c5 : Nat) (el : List (CmdN n)) (dp : Int) (w : World) (ve : Int) (hr : (kCmd n).C w A5 el.length el) (h2 : kd = 2) (h0 : 0 ≤ dp) (hd : ¬ 6 < dp) (ht : tx.length = 0) (hn : el.length = 1) (hk : ¬ kindC n (el[0]'(by omega)) = 2) (vt vh : Int) (hvt : vt = 0) (hvh : vh = 0) (HT : ∀ w', Below w.heap.size w w' → Calls Tryd.prog 159 #[.agg #[.int .i64 tk, .int .i64 mt, .int .i64 pt, .slice A1 nm.length c1, .slice A2 ks.length c2, .bool ov, .int .i64 lm, .slice A3 ts.length c3], .int .i64 1] w' fun e w2 => e = .returned (.int .i64 vt) ∧ Below w'.heap.size w' w2) (HH : ∀ w', Below w.heap.size w w' → Calls Tryd.prog 71 #[.slice A4 th.length c4, .int .i64 (dp + 1)] w' fun e w2 => e = .returned (.int .i64 vh) ∧ Below w'.heap.size w' w2) (HE : ∀ w', Below w.heap.size w w' → Calls Tryd.prog 71 #[.slice A5 el.length c5, .int .i64 (dp + 1)] w' fun e w2 => e = .returned (.int .i64 ve) ∧ Below w'.heap.size w' w2) : Calls Tryd.prog 111 #[.agg #[.int .i64 kd, .slice A0 tx.length c0, .int .i64 tk, .int .i64 mt, .int .i64 pt, .slice A1 nm.length c1, .slice A2 ks.length c2, .bool ov, .int .i64 lm, .slice A3 ts.length c3, .slice A4 th.length c4, .slice A5 el.length c5], .int .i64 dp] w (fun e w' => e = .returned (.int .i64 ve) ∧ Below w.heap.size w w') := by
  replace HT := Lib.hid HT
  replace HH := Lib.hid HH
  replace HE := Lib.hid HE
  subst hvt hvh
  have hnb : ((el.length : Int) == 1) = true := by rw [beq_iff_eq]; omega
  have hnl : (0 : Int) < (el.length : Int) := by omega
  obtain ⟨ad, cx, e1', hKx, hx0, hxj⟩ := elem_at hr (kCmd_sz n) 0 (by omega)
  obtain ⟨X1, l1, C1, x2, x3, x4, X5, l5, C5, X6, l6, C6, x7, x8, X9, l9, C9, X10, l10, C10, X11, l11, C11, rfl⟩ := cmdN_K hKx
  have ez : ad.add (0 * 12) = ad := by simp [Addr.add]
  simp only [ez] at hx0 hxj
  have q0 := hx0 _ rfl; have q1 := hxj 1 _ (by decide) rfl; have q2 := hxj 2 _ (by decide) rfl; have q3 := hxj 3 _ (by decide) rfl; have q4 := hxj 4 _ (by decide) rfl; have q5 := hxj 5 _ (by decide) rfl; have q6 := hxj 6 _ (by decide) rfl; have q7 := hxj 7 _ (by decide) rfl; have q8 := hxj 8 _ (by decide) rfl; have q9 := hxj 9 _ (by decide) rfl; have q10 := hxj 10 _ (by decide) rfl; have q11 := hxj 11 _ (by decide) rfl
  clear hx0 hxj ez
  have FF := Lib.hid (fun (W : World) (h : Below w.heap.size w W) => And.intro (pw_cell_below h q0) (And.intro (pw_cell_below h q1) (And.intro (pw_cell_below h q2) (And.intro (pw_cell_below h q3) (And.intro (pw_cell_below h q4) (And.intro (pw_cell_below h q5) (And.intro (pw_cell_below h q6) (And.intro (pw_cell_below h q7) (And.intro (pw_cell_below h q8) (And.intro (pw_cell_below h q9) (And.intro (pw_cell_below h q10) (pw_cell_below h q11))))))))))))
  clear q0 q1 q2 q3 q4 q5 q6 q7 q8 q9 q10 q11
  generalize kindC n (el[0]'(by omega)) = x0 at *
  have hkb : (x0 == 2) = false := by rw [beq_eq_false_iff_ne]; exact hk
  clear hKx hn hk hr
  have e1 : ¬ kd < 1 := by omega
  have e2 : ¬ 10 < kd := by omega
  have e3 : (kd == 2) = true := by rw [beq_iff_eq]; exact h2
  have e4 : ¬ (0 : Int) < (tx.length : Int) := by omega
  have e5 : ¬ 0 < tx.length := by omega
  clear h2 ht
  have hP : Blk (w.alloc (.cells #[.int .i64 kd, .slice A0 tx.length c0, .int .i64 tk, .int .i64 mt, .int .i64 pt, .slice A1 nm.length c1, .slice A2 ks.length c2, .bool ov, .int .i64 lm, .slice A3 ts.length c3, .slice A4 th.length c4, .slice A5 el.length c5] 109)) w.heap.size [.int .i64 kd, .slice A0 tx.length c0, .int .i64 tk, .int .i64 mt, .int .i64 pt, .slice A1 nm.length c1, .slice A2 ks.length c2, .bool ov, .int .i64 lm, .slice A3 ts.length c3, .slice A4 th.length c4, .slice A5 el.length c5] := Blk.made w _ _
  have hB : Below w.heap.size w (w.alloc (.cells #[.int .i64 kd, .slice A0 tx.length c0, .int .i64 tk, .int .i64 mt, .int .i64 pt, .slice A1 nm.length c1, .slice A2 ks.length c2, .bool ov, .int .i64 lm, .slice A3 ts.length c3, .slice A4 th.length c4, .slice A5 el.length c5] 109)) := (by repeat (first | exact Below.refl _ _ | apply below_alloc | apply pw_below_drewN | apply below_drew1 | (refine Below.setCell ?_ (by first | (simp; done) | (simp; omega) | omega) _) ))
  have p0 := (hP).at 0 _ rfl
  have p1 := (hP).at 1 _ rfl
  have p2 := (hP).at 2 _ rfl
  have p3 := (hP).at 3 _ rfl
  have p4 := (hP).at 4 _ rfl
  have p5 := (hP).at 5 _ rfl
  have p6 := (hP).at 6 _ rfl
  have p7 := (hP).at 7 _ rfl
  have p8 := (hP).at 8 _ rfl
  have p9 := (hP).at 9 _ rfl
  have p10 := (hP).at 10 _ rfl
  have p11 := (hP).at 11 _ rfl
  subst e1'
  go_enter Tryd.func111, Tryd.ntmps111
  go_wp2_with fail
  refine (HT.out _ hB).mono ?_
  rintro e w1 ⟨rfl, hb1⟩
  have hP1 := hP.below hb1 hP.lt
  have hB1 := hB.trans (hb1.mono hB.size)
  clear hP hB p0 p1 p2 p3 p4 p5 p6 p7 p8 p9 p10 p11 hb1
  have p0 := (hP1).at 0 _ rfl
  have p1 := (hP1).at 1 _ rfl
  have p2 := (hP1).at 2 _ rfl
  have p3 := (hP1).at 3 _ rfl
  have p4 := (hP1).at 4 _ rfl
  have p5 := (hP1).at 5 _ rfl
  have p6 := (hP1).at 6 _ rfl
  have p7 := (hP1).at 7 _ rfl
  have p8 := (hP1).at 8 _ rfl
  have p9 := (hP1).at 9 _ rfl
  have p10 := (hP1).at 10 _ rfl
  have p11 := (hP1).at 11 _ rfl
  go_wp2_with fail
  refine (HH.out _ hB1).mono ?_
  rintro e w2 ⟨rfl, hb2⟩
  have hP2 := hP1.below hb2 hP1.lt
  have hB2 := hB1.trans (hb2.mono hB1.size)
  clear hP1 hB1 p0 p1 p2 p3 p4 p5 p6 p7 p8 p9 p10 p11 hb2
  have p0 := (hP2).at 0 _ rfl
  have p1 := (hP2).at 1 _ rfl
  have p2 := (hP2).at 2 _ rfl
  have p3 := (hP2).at 3 _ rfl
  have p4 := (hP2).at 4 _ rfl
  have p5 := (hP2).at 5 _ rfl
  have p6 := (hP2).at 6 _ rfl
  have p7 := (hP2).at 7 _ rfl
  have p8 := (hP2).at 8 _ rfl
  have p9 := (hP2).at 9 _ rfl
  have p10 := (hP2).at 10 _ rfl
  have p11 := (hP2).at 11 _ rfl
  obtain ⟨q0, q1, q2, q3, q4, q5, q6, q7, q8, q9, q10, q11⟩ := FF.out _ hB2
  go_wp2_with fail
  refine (HE.out _ hB2).mono ?_
  rintro e w3 ⟨rfl, hb3⟩
  go_wp2_with fail
  go_ret
  exact ⟨rfl, hB2.trans (hb3.mono hB2.size)⟩
set_option maxHeartbeats 1000000 in
set_option maxRecDepth 100000 in
theorem cc_c (n : Nat) (kd : Int) (A0 : Option Addr) (c0 : Nat) (tx : List ByteArray) (tk mt pt : Int) (A1 : Option Addr) (c1 : Nat) (nm : List ByteArray) (A2 : Option Addr) (c2 : Nat) (ks : List ByteArray) (ov : Bool) (lm : Int) (A3 : Option Addr) (c3 : Nat) (ts : List (TestN n)) (A4 : Option Addr) (c4 : Nat) (th : List (CmdN n)) (A5 : Option Addr) (c5 : Nat) (el : List (CmdN n)) (dp : Int) (w : World) (vc : Int) (hr : (kCmd n).C w A5 el.length el) (h2 : kd = 2) (h0 : 0 ≤ dp) (hd : ¬ 6 < dp) (ht : tx.length = 0) (hn : el.length = 1) (hk : kindC n (el[0]'(by omega)) = 2) (vt vh : Int) (hvt : vt = 0) (hvh : vh = 0) (HT : ∀ w', Below w.heap.size w w' → Calls Tryd.prog 159 #[.agg #[.int .i64 tk, .int .i64 mt, .int .i64 pt, .slice A1 nm.length c1, .slice A2 ks.length c2, .bool ov, .int .i64 lm, .slice A3 ts.length c3], .int .i64 1] w' fun e w2 => e = .returned (.int .i64 vt) ∧ Below w'.heap.size w' w2) (HH : ∀ w', Below w.heap.size w w' → Calls Tryd.prog 71 #[.slice A4 th.length c4, .int .i64 (dp + 1)] w' fun e w2 => e = .returned (.int .i64 vh) ∧ Below w'.heap.size w' w2)
    (HC : ∀ cs w', (kCmd n).K w (el[0]'(by omega)) cs → Below w.heap.size w w' → Calls Tryd.prog 111 #[.agg cs.toArray, .int .i64 dp] w' fun e w2 => e = .returned (.int .i64 vc) ∧ Below w'.heap.size w' w2) : Calls Tryd.prog 111 #[.agg #[.int .i64 kd, .slice A0 tx.length c0, .int .i64 tk, .int .i64 mt, .int .i64 pt, .slice A1 nm.length c1, .slice A2 ks.length c2, .bool ov, .int .i64 lm, .slice A3 ts.length c3, .slice A4 th.length c4, .slice A5 el.length c5], .int .i64 dp] w (fun e w' => e = .returned (.int .i64 vc) ∧ Below w.heap.size w w') := by
  replace HT := Lib.hid HT
  replace HH := Lib.hid HH
  subst hvt hvh
  have hnb : ((el.length : Int) == 1) = true := by rw [beq_iff_eq]; omega
  have hnl : (0 : Int) < (el.length : Int) := by omega
  obtain ⟨ad, cx, e1', hKx, hx0, hxj⟩ := elem_at hr (kCmd_sz n) 0 (by omega)
  obtain ⟨X1, l1, C1, x2, x3, x4, X5, l5, C5, X6, l6, C6, x7, x8, X9, l9, C9, X10, l10, C10, X11, l11, C11, rfl⟩ := cmdN_K hKx
  have ez : ad.add (0 * 12) = ad := by simp [Addr.add]
  simp only [ez] at hx0 hxj
  have q0 := hx0 _ rfl; have q1 := hxj 1 _ (by decide) rfl; have q2 := hxj 2 _ (by decide) rfl; have q3 := hxj 3 _ (by decide) rfl; have q4 := hxj 4 _ (by decide) rfl; have q5 := hxj 5 _ (by decide) rfl; have q6 := hxj 6 _ (by decide) rfl; have q7 := hxj 7 _ (by decide) rfl; have q8 := hxj 8 _ (by decide) rfl; have q9 := hxj 9 _ (by decide) rfl; have q10 := hxj 10 _ (by decide) rfl; have q11 := hxj 11 _ (by decide) rfl
  clear hx0 hxj ez
  have FF := Lib.hid (fun (W : World) (h : Below w.heap.size w W) => And.intro (pw_cell_below h q0) (And.intro (pw_cell_below h q1) (And.intro (pw_cell_below h q2) (And.intro (pw_cell_below h q3) (And.intro (pw_cell_below h q4) (And.intro (pw_cell_below h q5) (And.intro (pw_cell_below h q6) (And.intro (pw_cell_below h q7) (And.intro (pw_cell_below h q8) (And.intro (pw_cell_below h q9) (And.intro (pw_cell_below h q10) (pw_cell_below h q11))))))))))))
  clear q0 q1 q2 q3 q4 q5 q6 q7 q8 q9 q10 q11
  replace HC := Lib.hid (fun w' => HC _ w' hKx)
  generalize kindC n (el[0]'(by omega)) = x0 at *
  have hkb : (x0 == 2) = true := by rw [beq_iff_eq]; exact hk
  clear hKx hn hk hr
  have e1 : ¬ kd < 1 := by omega
  have e2 : ¬ 10 < kd := by omega
  have e3 : (kd == 2) = true := by rw [beq_iff_eq]; exact h2
  have e4 : ¬ (0 : Int) < (tx.length : Int) := by omega
  have e5 : ¬ 0 < tx.length := by omega
  clear h2 ht
  have hP : Blk (w.alloc (.cells #[.int .i64 kd, .slice A0 tx.length c0, .int .i64 tk, .int .i64 mt, .int .i64 pt, .slice A1 nm.length c1, .slice A2 ks.length c2, .bool ov, .int .i64 lm, .slice A3 ts.length c3, .slice A4 th.length c4, .slice A5 el.length c5] 109)) w.heap.size [.int .i64 kd, .slice A0 tx.length c0, .int .i64 tk, .int .i64 mt, .int .i64 pt, .slice A1 nm.length c1, .slice A2 ks.length c2, .bool ov, .int .i64 lm, .slice A3 ts.length c3, .slice A4 th.length c4, .slice A5 el.length c5] := Blk.made w _ _
  have hB : Below w.heap.size w (w.alloc (.cells #[.int .i64 kd, .slice A0 tx.length c0, .int .i64 tk, .int .i64 mt, .int .i64 pt, .slice A1 nm.length c1, .slice A2 ks.length c2, .bool ov, .int .i64 lm, .slice A3 ts.length c3, .slice A4 th.length c4, .slice A5 el.length c5] 109)) := (by repeat (first | exact Below.refl _ _ | apply below_alloc | apply pw_below_drewN | apply below_drew1 | (refine Below.setCell ?_ (by first | (simp; done) | (simp; omega) | omega) _) ))
  have p0 := (hP).at 0 _ rfl
  have p1 := (hP).at 1 _ rfl
  have p2 := (hP).at 2 _ rfl
  have p3 := (hP).at 3 _ rfl
  have p4 := (hP).at 4 _ rfl
  have p5 := (hP).at 5 _ rfl
  have p6 := (hP).at 6 _ rfl
  have p7 := (hP).at 7 _ rfl
  have p8 := (hP).at 8 _ rfl
  have p9 := (hP).at 9 _ rfl
  have p10 := (hP).at 10 _ rfl
  have p11 := (hP).at 11 _ rfl
  subst e1'
  go_enter Tryd.func111, Tryd.ntmps111
  go_wp2_with fail
  refine (HT.out _ hB).mono ?_
  rintro e w1 ⟨rfl, hb1⟩
  have hP1 := hP.below hb1 hP.lt
  have hB1 := hB.trans (hb1.mono hB.size)
  clear hP hB p0 p1 p2 p3 p4 p5 p6 p7 p8 p9 p10 p11 hb1
  have p0 := (hP1).at 0 _ rfl
  have p1 := (hP1).at 1 _ rfl
  have p2 := (hP1).at 2 _ rfl
  have p3 := (hP1).at 3 _ rfl
  have p4 := (hP1).at 4 _ rfl
  have p5 := (hP1).at 5 _ rfl
  have p6 := (hP1).at 6 _ rfl
  have p7 := (hP1).at 7 _ rfl
  have p8 := (hP1).at 8 _ rfl
  have p9 := (hP1).at 9 _ rfl
  have p10 := (hP1).at 10 _ rfl
  have p11 := (hP1).at 11 _ rfl
  go_wp2_with fail
  refine (HH.out _ hB1).mono ?_
  rintro e w2 ⟨rfl, hb2⟩
  have hP2 := hP1.below hb2 hP1.lt
  have hB2 := hB1.trans (hb2.mono hB1.size)
  clear hP1 hB1 p0 p1 p2 p3 p4 p5 p6 p7 p8 p9 p10 p11 hb2
  have p0 := (hP2).at 0 _ rfl
  have p1 := (hP2).at 1 _ rfl
  have p2 := (hP2).at 2 _ rfl
  have p3 := (hP2).at 3 _ rfl
  have p4 := (hP2).at 4 _ rfl
  have p5 := (hP2).at 5 _ rfl
  have p6 := (hP2).at 6 _ rfl
  have p7 := (hP2).at 7 _ rfl
  have p8 := (hP2).at 8 _ rfl
  have p9 := (hP2).at 9 _ rfl
  have p10 := (hP2).at 10 _ rfl
  have p11 := (hP2).at 11 _ rfl
  obtain ⟨q0, q1, q2, q3, q4, q5, q6, q7, q8, q9, q10, q11⟩ := FF.out _ hB2
  go_wp2_with fail
  refine (HC.out _ hB2).mono ?_
  rintro e w3 ⟨rfl, hb3⟩
  go_wp2_with fail
  go_ret
  exact ⟨rfl, hB2.trans (hb3.mono hB2.size)⟩
set_option maxHeartbeats 1000000 in
set_option maxRecDepth 100000 in
theorem cn1_ok (n : Nat) (kd : Int) (A0 : Option Addr) (c0 : Nat) (tx : List ByteArray) (tk mt pt : Int) (A1 : Option Addr) (c1 : Nat) (nm : List ByteArray) (A2 : Option Addr) (c2 : Nat) (ks : List ByteArray) (ov : Bool) (lm : Int) (A3 : Option Addr) (c3 : Nat) (ts : List (TestN n)) (A4 : Option Addr) (c4 : Nat) (th : List (CmdN n)) (A5 : Option Addr) (c5 : Nat) (el : List (CmdN n)) (dp : Int) (w : World) (h1 : ¬ kd < 1) (h10 : ¬ 10 < kd) (hn2 : ¬ kd = 2) (hd : ¬ 6 < dp) (hth : th.length ≤ 1048576) (hel : el.length ≤ 1048576) (hk : kd = 1) (ht : 0 < tx.length) (b : Bool) (HB : ∀ w', Below w.heap.size w w' → Calls Tryd.prog 160 #[.agg #[.int .i64 tk, .int .i64 mt, .int .i64 pt, .slice A1 nm.length c1, .slice A2 ks.length c2, .bool ov, .int .i64 lm, .slice A3 ts.length c3]] w' fun e w2 => e = .returned (.bool b) ∧ Below w'.heap.size w' w2) : Calls Tryd.prog 111 #[.agg #[.int .i64 kd, .slice A0 tx.length c0, .int .i64 tk, .int .i64 mt, .int .i64 pt, .slice A1 nm.length c1, .slice A2 ks.length c2, .bool ov, .int .i64 lm, .slice A3 ts.length c3, .slice A4 th.length c4, .slice A5 el.length c5], .int .i64 dp] w (fun e w' => e = .returned (.int .i64 (if b = true ∧ th.length = 0 ∧ el.length = 0 then 0 else 3)) ∧ Below w.heap.size w w') := by
  have b1 : (kd == 1) = true := by rw [beq_iff_eq]; omega
  have b5 : (kd == 5) = false := by rw [beq_eq_false_iff_ne]; omega
  have b6 : (kd == 6) = false := by rw [beq_eq_false_iff_ne]; omega
  have b7 : (kd == 7) = false := by rw [beq_eq_false_iff_ne]; omega
  have b8 : (kd == 8) = false := by rw [beq_eq_false_iff_ne]; omega
  have b9 : (kd == 9) = false := by rw [beq_eq_false_iff_ne]; omega
  have j0 : (0 : Int) < (tx.length : Int) := by omega
  have j00 : 0 < tx.length := ht
  clear hk ht
  have js : (th.length : Int) + el.length ≤ 9223372036854775807 := by omega
  have jt : 0 ≤ (th.length : Int) + el.length := by omega
  clear hth hel
  have e2 : (kd == 2) = false := by rw [beq_eq_false_iff_ne]; exact hn2
  replace HB := Lib.hid HB
  clear hn2
  have hs : ((th.length : Int) + el.length > 0) ↔ ¬ (th.length = 0 ∧ el.length = 0) := by omega
  cases b with
  | false =>
    rw [if_neg (by simp)]
    clear hs
    skip
    skip
    skip
    have hP : Blk (w.alloc (.cells #[.int .i64 kd, .slice A0 tx.length c0, .int .i64 tk, .int .i64 mt, .int .i64 pt, .slice A1 nm.length c1, .slice A2 ks.length c2, .bool ov, .int .i64 lm, .slice A3 ts.length c3, .slice A4 th.length c4, .slice A5 el.length c5] 109)) w.heap.size [.int .i64 kd, .slice A0 tx.length c0, .int .i64 tk, .int .i64 mt, .int .i64 pt, .slice A1 nm.length c1, .slice A2 ks.length c2, .bool ov, .int .i64 lm, .slice A3 ts.length c3, .slice A4 th.length c4, .slice A5 el.length c5] := Blk.made w _ _
    have hB : Below w.heap.size w (w.alloc (.cells #[.int .i64 kd, .slice A0 tx.length c0, .int .i64 tk, .int .i64 mt, .int .i64 pt, .slice A1 nm.length c1, .slice A2 ks.length c2, .bool ov, .int .i64 lm, .slice A3 ts.length c3, .slice A4 th.length c4, .slice A5 el.length c5] 109)) := (by repeat (first | exact Below.refl _ _ | apply below_alloc | apply pw_below_drewN | apply below_drew1 | (refine Below.setCell ?_ (by first | (simp; done) | (simp; omega) | omega) _) ))
    have p0 := (hP).at 0 _ rfl
    have p1 := (hP).at 1 _ rfl
    have p2 := (hP).at 2 _ rfl
    have p3 := (hP).at 3 _ rfl
    have p4 := (hP).at 4 _ rfl
    have p5 := (hP).at 5 _ rfl
    have p6 := (hP).at 6 _ rfl
    have p7 := (hP).at 7 _ rfl
    have p8 := (hP).at 8 _ rfl
    have p9 := (hP).at 9 _ rfl
    have p10 := (hP).at 10 _ rfl
    have p11 := (hP).at 11 _ rfl
    go_enter Tryd.func111, Tryd.ntmps111
    go_wp2_with fail
    refine (HB.out _ hB).mono ?_
    rintro e w1 ⟨rfl, hb1⟩
    have hP1 := hP.below hb1 hP.lt
    have hB1 := hB.trans (hb1.mono hB.size)
    clear hP hB p0 p1 p2 p3 p4 p5 p6 p7 p8 p9 p10 p11 hb1
    have p0 := (hP1).at 0 _ rfl
    have p1 := (hP1).at 1 _ rfl
    have p2 := (hP1).at 2 _ rfl
    have p3 := (hP1).at 3 _ rfl
    have p4 := (hP1).at 4 _ rfl
    have p5 := (hP1).at 5 _ rfl
    have p6 := (hP1).at 6 _ rfl
    have p7 := (hP1).at 7 _ rfl
    have p8 := (hP1).at 8 _ rfl
    have p9 := (hP1).at 9 _ rfl
    have p10 := (hP1).at 10 _ rfl
    have p11 := (hP1).at 11 _ rfl
    go_wp2_with fail
    go_ret
    exact ⟨rfl, hB1⟩
  | true =>
    by_cases hz : th.length = 0 ∧ el.length = 0
    · rw [if_pos ⟨rfl, hz⟩]
      have j1 : ¬ (0 : Int) < (th.length : Int) + el.length := by omega
      clear hs hz
      skip
      skip
      skip
      have hP : Blk (w.alloc (.cells #[.int .i64 kd, .slice A0 tx.length c0, .int .i64 tk, .int .i64 mt, .int .i64 pt, .slice A1 nm.length c1, .slice A2 ks.length c2, .bool ov, .int .i64 lm, .slice A3 ts.length c3, .slice A4 th.length c4, .slice A5 el.length c5] 109)) w.heap.size [.int .i64 kd, .slice A0 tx.length c0, .int .i64 tk, .int .i64 mt, .int .i64 pt, .slice A1 nm.length c1, .slice A2 ks.length c2, .bool ov, .int .i64 lm, .slice A3 ts.length c3, .slice A4 th.length c4, .slice A5 el.length c5] := Blk.made w _ _
      have hB : Below w.heap.size w (w.alloc (.cells #[.int .i64 kd, .slice A0 tx.length c0, .int .i64 tk, .int .i64 mt, .int .i64 pt, .slice A1 nm.length c1, .slice A2 ks.length c2, .bool ov, .int .i64 lm, .slice A3 ts.length c3, .slice A4 th.length c4, .slice A5 el.length c5] 109)) := (by repeat (first | exact Below.refl _ _ | apply below_alloc | apply pw_below_drewN | apply below_drew1 | (refine Below.setCell ?_ (by first | (simp; done) | (simp; omega) | omega) _) ))
      have p0 := (hP).at 0 _ rfl
      have p1 := (hP).at 1 _ rfl
      have p2 := (hP).at 2 _ rfl
      have p3 := (hP).at 3 _ rfl
      have p4 := (hP).at 4 _ rfl
      have p5 := (hP).at 5 _ rfl
      have p6 := (hP).at 6 _ rfl
      have p7 := (hP).at 7 _ rfl
      have p8 := (hP).at 8 _ rfl
      have p9 := (hP).at 9 _ rfl
      have p10 := (hP).at 10 _ rfl
      have p11 := (hP).at 11 _ rfl
      go_enter Tryd.func111, Tryd.ntmps111
      go_wp2_with fail
      refine (HB.out _ hB).mono ?_
      rintro e w1 ⟨rfl, hb1⟩
      have hP1 := hP.below hb1 hP.lt
      have hB1 := hB.trans (hb1.mono hB.size)
      clear hP hB p0 p1 p2 p3 p4 p5 p6 p7 p8 p9 p10 p11 hb1
      have p0 := (hP1).at 0 _ rfl
      have p1 := (hP1).at 1 _ rfl
      have p2 := (hP1).at 2 _ rfl
      have p3 := (hP1).at 3 _ rfl
      have p4 := (hP1).at 4 _ rfl
      have p5 := (hP1).at 5 _ rfl
      have p6 := (hP1).at 6 _ rfl
      have p7 := (hP1).at 7 _ rfl
      have p8 := (hP1).at 8 _ rfl
      have p9 := (hP1).at 9 _ rfl
      have p10 := (hP1).at 10 _ rfl
      have p11 := (hP1).at 11 _ rfl
      go_wp2_with fail
      go_ret
      exact ⟨rfl, hB1⟩
    · rw [if_neg (fun h => hz h.2)]
      have j1 : (0 : Int) < (th.length : Int) + el.length := by omega
      clear hs hz
      skip
      skip
      skip
      have hP : Blk (w.alloc (.cells #[.int .i64 kd, .slice A0 tx.length c0, .int .i64 tk, .int .i64 mt, .int .i64 pt, .slice A1 nm.length c1, .slice A2 ks.length c2, .bool ov, .int .i64 lm, .slice A3 ts.length c3, .slice A4 th.length c4, .slice A5 el.length c5] 109)) w.heap.size [.int .i64 kd, .slice A0 tx.length c0, .int .i64 tk, .int .i64 mt, .int .i64 pt, .slice A1 nm.length c1, .slice A2 ks.length c2, .bool ov, .int .i64 lm, .slice A3 ts.length c3, .slice A4 th.length c4, .slice A5 el.length c5] := Blk.made w _ _
      have hB : Below w.heap.size w (w.alloc (.cells #[.int .i64 kd, .slice A0 tx.length c0, .int .i64 tk, .int .i64 mt, .int .i64 pt, .slice A1 nm.length c1, .slice A2 ks.length c2, .bool ov, .int .i64 lm, .slice A3 ts.length c3, .slice A4 th.length c4, .slice A5 el.length c5] 109)) := (by repeat (first | exact Below.refl _ _ | apply below_alloc | apply pw_below_drewN | apply below_drew1 | (refine Below.setCell ?_ (by first | (simp; done) | (simp; omega) | omega) _) ))
      have p0 := (hP).at 0 _ rfl
      have p1 := (hP).at 1 _ rfl
      have p2 := (hP).at 2 _ rfl
      have p3 := (hP).at 3 _ rfl
      have p4 := (hP).at 4 _ rfl
      have p5 := (hP).at 5 _ rfl
      have p6 := (hP).at 6 _ rfl
      have p7 := (hP).at 7 _ rfl
      have p8 := (hP).at 8 _ rfl
      have p9 := (hP).at 9 _ rfl
      have p10 := (hP).at 10 _ rfl
      have p11 := (hP).at 11 _ rfl
      go_enter Tryd.func111, Tryd.ntmps111
      go_wp2_with fail
      refine (HB.out _ hB).mono ?_
      rintro e w1 ⟨rfl, hb1⟩
      have hP1 := hP.below hb1 hP.lt
      have hB1 := hB.trans (hb1.mono hB.size)
      clear hP hB p0 p1 p2 p3 p4 p5 p6 p7 p8 p9 p10 p11 hb1
      have p0 := (hP1).at 0 _ rfl
      have p1 := (hP1).at 1 _ rfl
      have p2 := (hP1).at 2 _ rfl
      have p3 := (hP1).at 3 _ rfl
      have p4 := (hP1).at 4 _ rfl
      have p5 := (hP1).at 5 _ rfl
      have p6 := (hP1).at 6 _ rfl
      have p7 := (hP1).at 7 _ rfl
      have p8 := (hP1).at 8 _ rfl
      have p9 := (hP1).at 9 _ rfl
      have p10 := (hP1).at 10 _ rfl
      have p11 := (hP1).at 11 _ rfl
      go_wp2_with fail
      go_ret
      exact ⟨rfl, hB1⟩
set_option maxHeartbeats 1000000 in
set_option maxRecDepth 100000 in
theorem cn1_bad (n : Nat) (kd : Int) (A0 : Option Addr) (c0 : Nat) (tx : List ByteArray) (tk mt pt : Int) (A1 : Option Addr) (c1 : Nat) (nm : List ByteArray) (A2 : Option Addr) (c2 : Nat) (ks : List ByteArray) (ov : Bool) (lm : Int) (A3 : Option Addr) (c3 : Nat) (ts : List (TestN n)) (A4 : Option Addr) (c4 : Nat) (th : List (CmdN n)) (A5 : Option Addr) (c5 : Nat) (el : List (CmdN n)) (dp : Int) (w : World) (h1 : ¬ kd < 1) (h10 : ¬ 10 < kd) (hn2 : ¬ kd = 2) (hd : ¬ 6 < dp) (hth : th.length ≤ 1048576) (hel : el.length ≤ 1048576) (hk : kd = 1) (ht : ¬ 0 < tx.length) : Calls Tryd.prog 111 #[.agg #[.int .i64 kd, .slice A0 tx.length c0, .int .i64 tk, .int .i64 mt, .int .i64 pt, .slice A1 nm.length c1, .slice A2 ks.length c2, .bool ov, .int .i64 lm, .slice A3 ts.length c3, .slice A4 th.length c4, .slice A5 el.length c5], .int .i64 dp] w (fun e w' => e = .returned (.int .i64 3) ∧ Below w.heap.size w w') := by
  have b1 : (kd == 1) = true := by rw [beq_iff_eq]; omega
  have b5 : (kd == 5) = false := by rw [beq_eq_false_iff_ne]; omega
  have b6 : (kd == 6) = false := by rw [beq_eq_false_iff_ne]; omega
  have b7 : (kd == 7) = false := by rw [beq_eq_false_iff_ne]; omega
  have b8 : (kd == 8) = false := by rw [beq_eq_false_iff_ne]; omega
  have b9 : (kd == 9) = false := by rw [beq_eq_false_iff_ne]; omega
  have j0 : ¬ (0 : Int) < (tx.length : Int) := by omega
  have j00 : ¬ 0 < tx.length := ht
  have e2 : (kd == 2) = false := by rw [beq_eq_false_iff_ne]; exact hn2
  clear hk ht hn2
  skip
  have hP : Blk (w.alloc (.cells #[.int .i64 kd, .slice A0 tx.length c0, .int .i64 tk, .int .i64 mt, .int .i64 pt, .slice A1 nm.length c1, .slice A2 ks.length c2, .bool ov, .int .i64 lm, .slice A3 ts.length c3, .slice A4 th.length c4, .slice A5 el.length c5] 109)) w.heap.size [.int .i64 kd, .slice A0 tx.length c0, .int .i64 tk, .int .i64 mt, .int .i64 pt, .slice A1 nm.length c1, .slice A2 ks.length c2, .bool ov, .int .i64 lm, .slice A3 ts.length c3, .slice A4 th.length c4, .slice A5 el.length c5] := Blk.made w _ _
  have hB : Below w.heap.size w (w.alloc (.cells #[.int .i64 kd, .slice A0 tx.length c0, .int .i64 tk, .int .i64 mt, .int .i64 pt, .slice A1 nm.length c1, .slice A2 ks.length c2, .bool ov, .int .i64 lm, .slice A3 ts.length c3, .slice A4 th.length c4, .slice A5 el.length c5] 109)) := (by repeat (first | exact Below.refl _ _ | apply below_alloc | apply pw_below_drewN | apply below_drew1 | (refine Below.setCell ?_ (by first | (simp; done) | (simp; omega) | omega) _) ))
  have p0 := (hP).at 0 _ rfl
  have p1 := (hP).at 1 _ rfl
  have p2 := (hP).at 2 _ rfl
  have p3 := (hP).at 3 _ rfl
  have p4 := (hP).at 4 _ rfl
  have p5 := (hP).at 5 _ rfl
  have p6 := (hP).at 6 _ rfl
  have p7 := (hP).at 7 _ rfl
  have p8 := (hP).at 8 _ rfl
  have p9 := (hP).at 9 _ rfl
  have p10 := (hP).at 10 _ rfl
  have p11 := (hP).at 11 _ rfl
  go_enter Tryd.func111, Tryd.ntmps111
  go_wp2_with fail
  go_ret
  exact ⟨rfl, (by repeat (first | exact Below.refl _ _ | apply below_alloc | apply pw_below_drewN | apply below_drew1 | (refine Below.setCell ?_ (by first | (simp; done) | (simp; omega) | omega) _) ))⟩
set_option maxHeartbeats 1000000 in
set_option maxRecDepth 100000 in
theorem cn8_ok (n : Nat) (kd : Int) (A0 : Option Addr) (c0 : Nat) (tx : List ByteArray) (tk mt pt : Int) (A1 : Option Addr) (c1 : Nat) (nm : List ByteArray) (A2 : Option Addr) (c2 : Nat) (ks : List ByteArray) (ov : Bool) (lm : Int) (A3 : Option Addr) (c3 : Nat) (ts : List (TestN n)) (A4 : Option Addr) (c4 : Nat) (th : List (CmdN n)) (A5 : Option Addr) (c5 : Nat) (el : List (CmdN n)) (dp : Int) (w : World) (h1 : ¬ kd < 1) (h10 : ¬ 10 < kd) (hn2 : ¬ kd = 2) (hd : ¬ 6 < dp) (hth : th.length ≤ 1048576) (hel : el.length ≤ 1048576) (hk : kd = 8) (ht : 0 < tx.length) (b : Bool) (HB : ∀ w', Below w.heap.size w w' → Calls Tryd.prog 160 #[.agg #[.int .i64 tk, .int .i64 mt, .int .i64 pt, .slice A1 nm.length c1, .slice A2 ks.length c2, .bool ov, .int .i64 lm, .slice A3 ts.length c3]] w' fun e w2 => e = .returned (.bool b) ∧ Below w'.heap.size w' w2) : Calls Tryd.prog 111 #[.agg #[.int .i64 kd, .slice A0 tx.length c0, .int .i64 tk, .int .i64 mt, .int .i64 pt, .slice A1 nm.length c1, .slice A2 ks.length c2, .bool ov, .int .i64 lm, .slice A3 ts.length c3, .slice A4 th.length c4, .slice A5 el.length c5], .int .i64 dp] w (fun e w' => e = .returned (.int .i64 (if b = true ∧ th.length = 0 ∧ el.length = 0 then 0 else 3)) ∧ Below w.heap.size w w') := by
  have b1 : (kd == 1) = false := by rw [beq_eq_false_iff_ne]; omega
  have b5 : (kd == 5) = false := by rw [beq_eq_false_iff_ne]; omega
  have b6 : (kd == 6) = false := by rw [beq_eq_false_iff_ne]; omega
  have b7 : (kd == 7) = false := by rw [beq_eq_false_iff_ne]; omega
  have b8 : (kd == 8) = true := by rw [beq_iff_eq]; omega
  have b9 : (kd == 9) = false := by rw [beq_eq_false_iff_ne]; omega
  have j0 : (0 : Int) < (tx.length : Int) := by omega
  have j00 : 0 < tx.length := ht
  clear hk ht
  have js : (th.length : Int) + el.length ≤ 9223372036854775807 := by omega
  have jt : 0 ≤ (th.length : Int) + el.length := by omega
  clear hth hel
  have e2 : (kd == 2) = false := by rw [beq_eq_false_iff_ne]; exact hn2
  replace HB := Lib.hid HB
  clear hn2
  have hs : ((th.length : Int) + el.length > 0) ↔ ¬ (th.length = 0 ∧ el.length = 0) := by omega
  cases b with
  | false =>
    rw [if_neg (by simp)]
    clear hs
    skip
    skip
    skip
    have hP : Blk (w.alloc (.cells #[.int .i64 kd, .slice A0 tx.length c0, .int .i64 tk, .int .i64 mt, .int .i64 pt, .slice A1 nm.length c1, .slice A2 ks.length c2, .bool ov, .int .i64 lm, .slice A3 ts.length c3, .slice A4 th.length c4, .slice A5 el.length c5] 109)) w.heap.size [.int .i64 kd, .slice A0 tx.length c0, .int .i64 tk, .int .i64 mt, .int .i64 pt, .slice A1 nm.length c1, .slice A2 ks.length c2, .bool ov, .int .i64 lm, .slice A3 ts.length c3, .slice A4 th.length c4, .slice A5 el.length c5] := Blk.made w _ _
    have hB : Below w.heap.size w (w.alloc (.cells #[.int .i64 kd, .slice A0 tx.length c0, .int .i64 tk, .int .i64 mt, .int .i64 pt, .slice A1 nm.length c1, .slice A2 ks.length c2, .bool ov, .int .i64 lm, .slice A3 ts.length c3, .slice A4 th.length c4, .slice A5 el.length c5] 109)) := (by repeat (first | exact Below.refl _ _ | apply below_alloc | apply pw_below_drewN | apply below_drew1 | (refine Below.setCell ?_ (by first | (simp; done) | (simp; omega) | omega) _) ))
    have p0 := (hP).at 0 _ rfl
    have p1 := (hP).at 1 _ rfl
    have p2 := (hP).at 2 _ rfl
    have p3 := (hP).at 3 _ rfl
    have p4 := (hP).at 4 _ rfl
    have p5 := (hP).at 5 _ rfl
    have p6 := (hP).at 6 _ rfl
    have p7 := (hP).at 7 _ rfl
    have p8 := (hP).at 8 _ rfl
    have p9 := (hP).at 9 _ rfl
    have p10 := (hP).at 10 _ rfl
    have p11 := (hP).at 11 _ rfl
    go_enter Tryd.func111, Tryd.ntmps111
    go_wp2_with fail
    refine (HB.out _ hB).mono ?_
    rintro e w1 ⟨rfl, hb1⟩
    have hP1 := hP.below hb1 hP.lt
    have hB1 := hB.trans (hb1.mono hB.size)
    clear hP hB p0 p1 p2 p3 p4 p5 p6 p7 p8 p9 p10 p11 hb1
    have p0 := (hP1).at 0 _ rfl
    have p1 := (hP1).at 1 _ rfl
    have p2 := (hP1).at 2 _ rfl
    have p3 := (hP1).at 3 _ rfl
    have p4 := (hP1).at 4 _ rfl
    have p5 := (hP1).at 5 _ rfl
    have p6 := (hP1).at 6 _ rfl
    have p7 := (hP1).at 7 _ rfl
    have p8 := (hP1).at 8 _ rfl
    have p9 := (hP1).at 9 _ rfl
    have p10 := (hP1).at 10 _ rfl
    have p11 := (hP1).at 11 _ rfl
    go_wp2_with fail
    go_ret
    exact ⟨rfl, hB1⟩
  | true =>
    by_cases hz : th.length = 0 ∧ el.length = 0
    · rw [if_pos ⟨rfl, hz⟩]
      have j1 : ¬ (0 : Int) < (th.length : Int) + el.length := by omega
      clear hs hz
      skip
      skip
      skip
      have hP : Blk (w.alloc (.cells #[.int .i64 kd, .slice A0 tx.length c0, .int .i64 tk, .int .i64 mt, .int .i64 pt, .slice A1 nm.length c1, .slice A2 ks.length c2, .bool ov, .int .i64 lm, .slice A3 ts.length c3, .slice A4 th.length c4, .slice A5 el.length c5] 109)) w.heap.size [.int .i64 kd, .slice A0 tx.length c0, .int .i64 tk, .int .i64 mt, .int .i64 pt, .slice A1 nm.length c1, .slice A2 ks.length c2, .bool ov, .int .i64 lm, .slice A3 ts.length c3, .slice A4 th.length c4, .slice A5 el.length c5] := Blk.made w _ _
      have hB : Below w.heap.size w (w.alloc (.cells #[.int .i64 kd, .slice A0 tx.length c0, .int .i64 tk, .int .i64 mt, .int .i64 pt, .slice A1 nm.length c1, .slice A2 ks.length c2, .bool ov, .int .i64 lm, .slice A3 ts.length c3, .slice A4 th.length c4, .slice A5 el.length c5] 109)) := (by repeat (first | exact Below.refl _ _ | apply below_alloc | apply pw_below_drewN | apply below_drew1 | (refine Below.setCell ?_ (by first | (simp; done) | (simp; omega) | omega) _) ))
      have p0 := (hP).at 0 _ rfl
      have p1 := (hP).at 1 _ rfl
      have p2 := (hP).at 2 _ rfl
      have p3 := (hP).at 3 _ rfl
      have p4 := (hP).at 4 _ rfl
      have p5 := (hP).at 5 _ rfl
      have p6 := (hP).at 6 _ rfl
      have p7 := (hP).at 7 _ rfl
      have p8 := (hP).at 8 _ rfl
      have p9 := (hP).at 9 _ rfl
      have p10 := (hP).at 10 _ rfl
      have p11 := (hP).at 11 _ rfl
      go_enter Tryd.func111, Tryd.ntmps111
      go_wp2_with fail
      refine (HB.out _ hB).mono ?_
      rintro e w1 ⟨rfl, hb1⟩
      have hP1 := hP.below hb1 hP.lt
      have hB1 := hB.trans (hb1.mono hB.size)
      clear hP hB p0 p1 p2 p3 p4 p5 p6 p7 p8 p9 p10 p11 hb1
      have p0 := (hP1).at 0 _ rfl
      have p1 := (hP1).at 1 _ rfl
      have p2 := (hP1).at 2 _ rfl
      have p3 := (hP1).at 3 _ rfl
      have p4 := (hP1).at 4 _ rfl
      have p5 := (hP1).at 5 _ rfl
      have p6 := (hP1).at 6 _ rfl
      have p7 := (hP1).at 7 _ rfl
      have p8 := (hP1).at 8 _ rfl
      have p9 := (hP1).at 9 _ rfl
      have p10 := (hP1).at 10 _ rfl
      have p11 := (hP1).at 11 _ rfl
      go_wp2_with fail
      go_ret
      exact ⟨rfl, hB1⟩
    · rw [if_neg (fun h => hz h.2)]
      have j1 : (0 : Int) < (th.length : Int) + el.length := by omega
      clear hs hz
      skip
      skip
      skip
      have hP : Blk (w.alloc (.cells #[.int .i64 kd, .slice A0 tx.length c0, .int .i64 tk, .int .i64 mt, .int .i64 pt, .slice A1 nm.length c1, .slice A2 ks.length c2, .bool ov, .int .i64 lm, .slice A3 ts.length c3, .slice A4 th.length c4, .slice A5 el.length c5] 109)) w.heap.size [.int .i64 kd, .slice A0 tx.length c0, .int .i64 tk, .int .i64 mt, .int .i64 pt, .slice A1 nm.length c1, .slice A2 ks.length c2, .bool ov, .int .i64 lm, .slice A3 ts.length c3, .slice A4 th.length c4, .slice A5 el.length c5] := Blk.made w _ _
      have hB : Below w.heap.size w (w.alloc (.cells #[.int .i64 kd, .slice A0 tx.length c0, .int .i64 tk, .int .i64 mt, .int .i64 pt, .slice A1 nm.length c1, .slice A2 ks.length c2, .bool ov, .int .i64 lm, .slice A3 ts.length c3, .slice A4 th.length c4, .slice A5 el.length c5] 109)) := (by repeat (first | exact Below.refl _ _ | apply below_alloc | apply pw_below_drewN | apply below_drew1 | (refine Below.setCell ?_ (by first | (simp; done) | (simp; omega) | omega) _) ))
      have p0 := (hP).at 0 _ rfl
      have p1 := (hP).at 1 _ rfl
      have p2 := (hP).at 2 _ rfl
      have p3 := (hP).at 3 _ rfl
      have p4 := (hP).at 4 _ rfl
      have p5 := (hP).at 5 _ rfl
      have p6 := (hP).at 6 _ rfl
      have p7 := (hP).at 7 _ rfl
      have p8 := (hP).at 8 _ rfl
      have p9 := (hP).at 9 _ rfl
      have p10 := (hP).at 10 _ rfl
      have p11 := (hP).at 11 _ rfl
      go_enter Tryd.func111, Tryd.ntmps111
      go_wp2_with fail
      refine (HB.out _ hB).mono ?_
      rintro e w1 ⟨rfl, hb1⟩
      have hP1 := hP.below hb1 hP.lt
      have hB1 := hB.trans (hb1.mono hB.size)
      clear hP hB p0 p1 p2 p3 p4 p5 p6 p7 p8 p9 p10 p11 hb1
      have p0 := (hP1).at 0 _ rfl
      have p1 := (hP1).at 1 _ rfl
      have p2 := (hP1).at 2 _ rfl
      have p3 := (hP1).at 3 _ rfl
      have p4 := (hP1).at 4 _ rfl
      have p5 := (hP1).at 5 _ rfl
      have p6 := (hP1).at 6 _ rfl
      have p7 := (hP1).at 7 _ rfl
      have p8 := (hP1).at 8 _ rfl
      have p9 := (hP1).at 9 _ rfl
      have p10 := (hP1).at 10 _ rfl
      have p11 := (hP1).at 11 _ rfl
      go_wp2_with fail
      go_ret
      exact ⟨rfl, hB1⟩
set_option maxHeartbeats 1000000 in
set_option maxRecDepth 100000 in
theorem cn8_bad (n : Nat) (kd : Int) (A0 : Option Addr) (c0 : Nat) (tx : List ByteArray) (tk mt pt : Int) (A1 : Option Addr) (c1 : Nat) (nm : List ByteArray) (A2 : Option Addr) (c2 : Nat) (ks : List ByteArray) (ov : Bool) (lm : Int) (A3 : Option Addr) (c3 : Nat) (ts : List (TestN n)) (A4 : Option Addr) (c4 : Nat) (th : List (CmdN n)) (A5 : Option Addr) (c5 : Nat) (el : List (CmdN n)) (dp : Int) (w : World) (h1 : ¬ kd < 1) (h10 : ¬ 10 < kd) (hn2 : ¬ kd = 2) (hd : ¬ 6 < dp) (hth : th.length ≤ 1048576) (hel : el.length ≤ 1048576) (hk : kd = 8) (ht : ¬ 0 < tx.length) : Calls Tryd.prog 111 #[.agg #[.int .i64 kd, .slice A0 tx.length c0, .int .i64 tk, .int .i64 mt, .int .i64 pt, .slice A1 nm.length c1, .slice A2 ks.length c2, .bool ov, .int .i64 lm, .slice A3 ts.length c3, .slice A4 th.length c4, .slice A5 el.length c5], .int .i64 dp] w (fun e w' => e = .returned (.int .i64 3) ∧ Below w.heap.size w w') := by
  have b1 : (kd == 1) = false := by rw [beq_eq_false_iff_ne]; omega
  have b5 : (kd == 5) = false := by rw [beq_eq_false_iff_ne]; omega
  have b6 : (kd == 6) = false := by rw [beq_eq_false_iff_ne]; omega
  have b7 : (kd == 7) = false := by rw [beq_eq_false_iff_ne]; omega
  have b8 : (kd == 8) = true := by rw [beq_iff_eq]; omega
  have b9 : (kd == 9) = false := by rw [beq_eq_false_iff_ne]; omega
  have j0 : ¬ (0 : Int) < (tx.length : Int) := by omega
  have j00 : ¬ 0 < tx.length := ht
  have e2 : (kd == 2) = false := by rw [beq_eq_false_iff_ne]; exact hn2
  clear hk ht hn2
  skip
  have hP : Blk (w.alloc (.cells #[.int .i64 kd, .slice A0 tx.length c0, .int .i64 tk, .int .i64 mt, .int .i64 pt, .slice A1 nm.length c1, .slice A2 ks.length c2, .bool ov, .int .i64 lm, .slice A3 ts.length c3, .slice A4 th.length c4, .slice A5 el.length c5] 109)) w.heap.size [.int .i64 kd, .slice A0 tx.length c0, .int .i64 tk, .int .i64 mt, .int .i64 pt, .slice A1 nm.length c1, .slice A2 ks.length c2, .bool ov, .int .i64 lm, .slice A3 ts.length c3, .slice A4 th.length c4, .slice A5 el.length c5] := Blk.made w _ _
  have hB : Below w.heap.size w (w.alloc (.cells #[.int .i64 kd, .slice A0 tx.length c0, .int .i64 tk, .int .i64 mt, .int .i64 pt, .slice A1 nm.length c1, .slice A2 ks.length c2, .bool ov, .int .i64 lm, .slice A3 ts.length c3, .slice A4 th.length c4, .slice A5 el.length c5] 109)) := (by repeat (first | exact Below.refl _ _ | apply below_alloc | apply pw_below_drewN | apply below_drew1 | (refine Below.setCell ?_ (by first | (simp; done) | (simp; omega) | omega) _) ))
  have p0 := (hP).at 0 _ rfl
  have p1 := (hP).at 1 _ rfl
  have p2 := (hP).at 2 _ rfl
  have p3 := (hP).at 3 _ rfl
  have p4 := (hP).at 4 _ rfl
  have p5 := (hP).at 5 _ rfl
  have p6 := (hP).at 6 _ rfl
  have p7 := (hP).at 7 _ rfl
  have p8 := (hP).at 8 _ rfl
  have p9 := (hP).at 9 _ rfl
  have p10 := (hP).at 10 _ rfl
  have p11 := (hP).at 11 _ rfl
  go_enter Tryd.func111, Tryd.ntmps111
  go_wp2_with fail
  go_ret
  exact ⟨rfl, (by repeat (first | exact Below.refl _ _ | apply below_alloc | apply pw_below_drewN | apply below_drew1 | (refine Below.setCell ?_ (by first | (simp; done) | (simp; omega) | omega) _) ))⟩
set_option maxHeartbeats 1000000 in
set_option maxRecDepth 100000 in
theorem cn9_ok (n : Nat) (kd : Int) (A0 : Option Addr) (c0 : Nat) (tx : List ByteArray) (tk mt pt : Int) (A1 : Option Addr) (c1 : Nat) (nm : List ByteArray) (A2 : Option Addr) (c2 : Nat) (ks : List ByteArray) (ov : Bool) (lm : Int) (A3 : Option Addr) (c3 : Nat) (ts : List (TestN n)) (A4 : Option Addr) (c4 : Nat) (th : List (CmdN n)) (A5 : Option Addr) (c5 : Nat) (el : List (CmdN n)) (dp : Int) (w : World) (h1 : ¬ kd < 1) (h10 : ¬ 10 < kd) (hn2 : ¬ kd = 2) (hd : ¬ 6 < dp) (hth : th.length ≤ 1048576) (hel : el.length ≤ 1048576) (hk : kd = 9) (ht : 0 < tx.length) (b : Bool) (HB : ∀ w', Below w.heap.size w w' → Calls Tryd.prog 160 #[.agg #[.int .i64 tk, .int .i64 mt, .int .i64 pt, .slice A1 nm.length c1, .slice A2 ks.length c2, .bool ov, .int .i64 lm, .slice A3 ts.length c3]] w' fun e w2 => e = .returned (.bool b) ∧ Below w'.heap.size w' w2) : Calls Tryd.prog 111 #[.agg #[.int .i64 kd, .slice A0 tx.length c0, .int .i64 tk, .int .i64 mt, .int .i64 pt, .slice A1 nm.length c1, .slice A2 ks.length c2, .bool ov, .int .i64 lm, .slice A3 ts.length c3, .slice A4 th.length c4, .slice A5 el.length c5], .int .i64 dp] w (fun e w' => e = .returned (.int .i64 (if b = true ∧ th.length = 0 ∧ el.length = 0 then 0 else 3)) ∧ Below w.heap.size w w') := by
  have b1 : (kd == 1) = false := by rw [beq_eq_false_iff_ne]; omega
  have b5 : (kd == 5) = false := by rw [beq_eq_false_iff_ne]; omega
  have b6 : (kd == 6) = false := by rw [beq_eq_false_iff_ne]; omega
  have b7 : (kd == 7) = false := by rw [beq_eq_false_iff_ne]; omega
  have b8 : (kd == 8) = false := by rw [beq_eq_false_iff_ne]; omega
  have b9 : (kd == 9) = true := by rw [beq_iff_eq]; omega
  have j0 : (0 : Int) < (tx.length : Int) := by omega
  have j00 : 0 < tx.length := ht
  clear hk ht
  have js : (th.length : Int) + el.length ≤ 9223372036854775807 := by omega
  have jt : 0 ≤ (th.length : Int) + el.length := by omega
  clear hth hel
  have e2 : (kd == 2) = false := by rw [beq_eq_false_iff_ne]; exact hn2
  replace HB := Lib.hid HB
  clear hn2
  have hs : ((th.length : Int) + el.length > 0) ↔ ¬ (th.length = 0 ∧ el.length = 0) := by omega
  cases b with
  | false =>
    rw [if_neg (by simp)]
    clear hs
    skip
    skip
    skip
    have hP : Blk (w.alloc (.cells #[.int .i64 kd, .slice A0 tx.length c0, .int .i64 tk, .int .i64 mt, .int .i64 pt, .slice A1 nm.length c1, .slice A2 ks.length c2, .bool ov, .int .i64 lm, .slice A3 ts.length c3, .slice A4 th.length c4, .slice A5 el.length c5] 109)) w.heap.size [.int .i64 kd, .slice A0 tx.length c0, .int .i64 tk, .int .i64 mt, .int .i64 pt, .slice A1 nm.length c1, .slice A2 ks.length c2, .bool ov, .int .i64 lm, .slice A3 ts.length c3, .slice A4 th.length c4, .slice A5 el.length c5] := Blk.made w _ _
    have hB : Below w.heap.size w (w.alloc (.cells #[.int .i64 kd, .slice A0 tx.length c0, .int .i64 tk, .int .i64 mt, .int .i64 pt, .slice A1 nm.length c1, .slice A2 ks.length c2, .bool ov, .int .i64 lm, .slice A3 ts.length c3, .slice A4 th.length c4, .slice A5 el.length c5] 109)) := (by repeat (first | exact Below.refl _ _ | apply below_alloc | apply pw_below_drewN | apply below_drew1 | (refine Below.setCell ?_ (by first | (simp; done) | (simp; omega) | omega) _) ))
    have p0 := (hP).at 0 _ rfl
    have p1 := (hP).at 1 _ rfl
    have p2 := (hP).at 2 _ rfl
    have p3 := (hP).at 3 _ rfl
    have p4 := (hP).at 4 _ rfl
    have p5 := (hP).at 5 _ rfl
    have p6 := (hP).at 6 _ rfl
    have p7 := (hP).at 7 _ rfl
    have p8 := (hP).at 8 _ rfl
    have p9 := (hP).at 9 _ rfl
    have p10 := (hP).at 10 _ rfl
    have p11 := (hP).at 11 _ rfl
    go_enter Tryd.func111, Tryd.ntmps111
    go_wp2_with fail
    refine (HB.out _ hB).mono ?_
    rintro e w1 ⟨rfl, hb1⟩
    have hP1 := hP.below hb1 hP.lt
    have hB1 := hB.trans (hb1.mono hB.size)
    clear hP hB p0 p1 p2 p3 p4 p5 p6 p7 p8 p9 p10 p11 hb1
    have p0 := (hP1).at 0 _ rfl
    have p1 := (hP1).at 1 _ rfl
    have p2 := (hP1).at 2 _ rfl
    have p3 := (hP1).at 3 _ rfl
    have p4 := (hP1).at 4 _ rfl
    have p5 := (hP1).at 5 _ rfl
    have p6 := (hP1).at 6 _ rfl
    have p7 := (hP1).at 7 _ rfl
    have p8 := (hP1).at 8 _ rfl
    have p9 := (hP1).at 9 _ rfl
    have p10 := (hP1).at 10 _ rfl
    have p11 := (hP1).at 11 _ rfl
    go_wp2_with fail
    go_ret
    exact ⟨rfl, hB1⟩
  | true =>
    by_cases hz : th.length = 0 ∧ el.length = 0
    · rw [if_pos ⟨rfl, hz⟩]
      have j1 : ¬ (0 : Int) < (th.length : Int) + el.length := by omega
      clear hs hz
      skip
      skip
      skip
      have hP : Blk (w.alloc (.cells #[.int .i64 kd, .slice A0 tx.length c0, .int .i64 tk, .int .i64 mt, .int .i64 pt, .slice A1 nm.length c1, .slice A2 ks.length c2, .bool ov, .int .i64 lm, .slice A3 ts.length c3, .slice A4 th.length c4, .slice A5 el.length c5] 109)) w.heap.size [.int .i64 kd, .slice A0 tx.length c0, .int .i64 tk, .int .i64 mt, .int .i64 pt, .slice A1 nm.length c1, .slice A2 ks.length c2, .bool ov, .int .i64 lm, .slice A3 ts.length c3, .slice A4 th.length c4, .slice A5 el.length c5] := Blk.made w _ _
      have hB : Below w.heap.size w (w.alloc (.cells #[.int .i64 kd, .slice A0 tx.length c0, .int .i64 tk, .int .i64 mt, .int .i64 pt, .slice A1 nm.length c1, .slice A2 ks.length c2, .bool ov, .int .i64 lm, .slice A3 ts.length c3, .slice A4 th.length c4, .slice A5 el.length c5] 109)) := (by repeat (first | exact Below.refl _ _ | apply below_alloc | apply pw_below_drewN | apply below_drew1 | (refine Below.setCell ?_ (by first | (simp; done) | (simp; omega) | omega) _) ))
      have p0 := (hP).at 0 _ rfl
      have p1 := (hP).at 1 _ rfl
      have p2 := (hP).at 2 _ rfl
      have p3 := (hP).at 3 _ rfl
      have p4 := (hP).at 4 _ rfl
      have p5 := (hP).at 5 _ rfl
      have p6 := (hP).at 6 _ rfl
      have p7 := (hP).at 7 _ rfl
      have p8 := (hP).at 8 _ rfl
      have p9 := (hP).at 9 _ rfl
      have p10 := (hP).at 10 _ rfl
      have p11 := (hP).at 11 _ rfl
      go_enter Tryd.func111, Tryd.ntmps111
      go_wp2_with fail
      refine (HB.out _ hB).mono ?_
      rintro e w1 ⟨rfl, hb1⟩
      have hP1 := hP.below hb1 hP.lt
      have hB1 := hB.trans (hb1.mono hB.size)
      clear hP hB p0 p1 p2 p3 p4 p5 p6 p7 p8 p9 p10 p11 hb1
      have p0 := (hP1).at 0 _ rfl
      have p1 := (hP1).at 1 _ rfl
      have p2 := (hP1).at 2 _ rfl
      have p3 := (hP1).at 3 _ rfl
      have p4 := (hP1).at 4 _ rfl
      have p5 := (hP1).at 5 _ rfl
      have p6 := (hP1).at 6 _ rfl
      have p7 := (hP1).at 7 _ rfl
      have p8 := (hP1).at 8 _ rfl
      have p9 := (hP1).at 9 _ rfl
      have p10 := (hP1).at 10 _ rfl
      have p11 := (hP1).at 11 _ rfl
      go_wp2_with fail
      go_ret
      exact ⟨rfl, hB1⟩
    · rw [if_neg (fun h => hz h.2)]
      have j1 : (0 : Int) < (th.length : Int) + el.length := by omega
      clear hs hz
      skip
      skip
      skip
      have hP : Blk (w.alloc (.cells #[.int .i64 kd, .slice A0 tx.length c0, .int .i64 tk, .int .i64 mt, .int .i64 pt, .slice A1 nm.length c1, .slice A2 ks.length c2, .bool ov, .int .i64 lm, .slice A3 ts.length c3, .slice A4 th.length c4, .slice A5 el.length c5] 109)) w.heap.size [.int .i64 kd, .slice A0 tx.length c0, .int .i64 tk, .int .i64 mt, .int .i64 pt, .slice A1 nm.length c1, .slice A2 ks.length c2, .bool ov, .int .i64 lm, .slice A3 ts.length c3, .slice A4 th.length c4, .slice A5 el.length c5] := Blk.made w _ _
      have hB : Below w.heap.size w (w.alloc (.cells #[.int .i64 kd, .slice A0 tx.length c0, .int .i64 tk, .int .i64 mt, .int .i64 pt, .slice A1 nm.length c1, .slice A2 ks.length c2, .bool ov, .int .i64 lm, .slice A3 ts.length c3, .slice A4 th.length c4, .slice A5 el.length c5] 109)) := (by repeat (first | exact Below.refl _ _ | apply below_alloc | apply pw_below_drewN | apply below_drew1 | (refine Below.setCell ?_ (by first | (simp; done) | (simp; omega) | omega) _) ))
      have p0 := (hP).at 0 _ rfl
      have p1 := (hP).at 1 _ rfl
      have p2 := (hP).at 2 _ rfl
      have p3 := (hP).at 3 _ rfl
      have p4 := (hP).at 4 _ rfl
      have p5 := (hP).at 5 _ rfl
      have p6 := (hP).at 6 _ rfl
      have p7 := (hP).at 7 _ rfl
      have p8 := (hP).at 8 _ rfl
      have p9 := (hP).at 9 _ rfl
      have p10 := (hP).at 10 _ rfl
      have p11 := (hP).at 11 _ rfl
      go_enter Tryd.func111, Tryd.ntmps111
      go_wp2_with fail
      refine (HB.out _ hB).mono ?_
      rintro e w1 ⟨rfl, hb1⟩
      have hP1 := hP.below hb1 hP.lt
      have hB1 := hB.trans (hb1.mono hB.size)
      clear hP hB p0 p1 p2 p3 p4 p5 p6 p7 p8 p9 p10 p11 hb1
      have p0 := (hP1).at 0 _ rfl
      have p1 := (hP1).at 1 _ rfl
      have p2 := (hP1).at 2 _ rfl
      have p3 := (hP1).at 3 _ rfl
      have p4 := (hP1).at 4 _ rfl
      have p5 := (hP1).at 5 _ rfl
      have p6 := (hP1).at 6 _ rfl
      have p7 := (hP1).at 7 _ rfl
      have p8 := (hP1).at 8 _ rfl
      have p9 := (hP1).at 9 _ rfl
      have p10 := (hP1).at 10 _ rfl
      have p11 := (hP1).at 11 _ rfl
      go_wp2_with fail
      go_ret
      exact ⟨rfl, hB1⟩
set_option maxHeartbeats 1000000 in
set_option maxRecDepth 100000 in
theorem cn9_bad (n : Nat) (kd : Int) (A0 : Option Addr) (c0 : Nat) (tx : List ByteArray) (tk mt pt : Int) (A1 : Option Addr) (c1 : Nat) (nm : List ByteArray) (A2 : Option Addr) (c2 : Nat) (ks : List ByteArray) (ov : Bool) (lm : Int) (A3 : Option Addr) (c3 : Nat) (ts : List (TestN n)) (A4 : Option Addr) (c4 : Nat) (th : List (CmdN n)) (A5 : Option Addr) (c5 : Nat) (el : List (CmdN n)) (dp : Int) (w : World) (h1 : ¬ kd < 1) (h10 : ¬ 10 < kd) (hn2 : ¬ kd = 2) (hd : ¬ 6 < dp) (hth : th.length ≤ 1048576) (hel : el.length ≤ 1048576) (hk : kd = 9) (ht : ¬ 0 < tx.length) : Calls Tryd.prog 111 #[.agg #[.int .i64 kd, .slice A0 tx.length c0, .int .i64 tk, .int .i64 mt, .int .i64 pt, .slice A1 nm.length c1, .slice A2 ks.length c2, .bool ov, .int .i64 lm, .slice A3 ts.length c3, .slice A4 th.length c4, .slice A5 el.length c5], .int .i64 dp] w (fun e w' => e = .returned (.int .i64 3) ∧ Below w.heap.size w w') := by
  have b1 : (kd == 1) = false := by rw [beq_eq_false_iff_ne]; omega
  have b5 : (kd == 5) = false := by rw [beq_eq_false_iff_ne]; omega
  have b6 : (kd == 6) = false := by rw [beq_eq_false_iff_ne]; omega
  have b7 : (kd == 7) = false := by rw [beq_eq_false_iff_ne]; omega
  have b8 : (kd == 8) = false := by rw [beq_eq_false_iff_ne]; omega
  have b9 : (kd == 9) = true := by rw [beq_iff_eq]; omega
  have j0 : ¬ (0 : Int) < (tx.length : Int) := by omega
  have j00 : ¬ 0 < tx.length := ht
  have e2 : (kd == 2) = false := by rw [beq_eq_false_iff_ne]; exact hn2
  clear hk ht hn2
  skip
  have hP : Blk (w.alloc (.cells #[.int .i64 kd, .slice A0 tx.length c0, .int .i64 tk, .int .i64 mt, .int .i64 pt, .slice A1 nm.length c1, .slice A2 ks.length c2, .bool ov, .int .i64 lm, .slice A3 ts.length c3, .slice A4 th.length c4, .slice A5 el.length c5] 109)) w.heap.size [.int .i64 kd, .slice A0 tx.length c0, .int .i64 tk, .int .i64 mt, .int .i64 pt, .slice A1 nm.length c1, .slice A2 ks.length c2, .bool ov, .int .i64 lm, .slice A3 ts.length c3, .slice A4 th.length c4, .slice A5 el.length c5] := Blk.made w _ _
  have hB : Below w.heap.size w (w.alloc (.cells #[.int .i64 kd, .slice A0 tx.length c0, .int .i64 tk, .int .i64 mt, .int .i64 pt, .slice A1 nm.length c1, .slice A2 ks.length c2, .bool ov, .int .i64 lm, .slice A3 ts.length c3, .slice A4 th.length c4, .slice A5 el.length c5] 109)) := (by repeat (first | exact Below.refl _ _ | apply below_alloc | apply pw_below_drewN | apply below_drew1 | (refine Below.setCell ?_ (by first | (simp; done) | (simp; omega) | omega) _) ))
  have p0 := (hP).at 0 _ rfl
  have p1 := (hP).at 1 _ rfl
  have p2 := (hP).at 2 _ rfl
  have p3 := (hP).at 3 _ rfl
  have p4 := (hP).at 4 _ rfl
  have p5 := (hP).at 5 _ rfl
  have p6 := (hP).at 6 _ rfl
  have p7 := (hP).at 7 _ rfl
  have p8 := (hP).at 8 _ rfl
  have p9 := (hP).at 9 _ rfl
  have p10 := (hP).at 10 _ rfl
  have p11 := (hP).at 11 _ rfl
  go_enter Tryd.func111, Tryd.ntmps111
  go_wp2_with fail
  go_ret
  exact ⟨rfl, (by repeat (first | exact Below.refl _ _ | apply below_alloc | apply pw_below_drewN | apply below_drew1 | (refine Below.setCell ?_ (by first | (simp; done) | (simp; omega) | omega) _) ))⟩
set_option maxHeartbeats 1000000 in
set_option maxRecDepth 100000 in
theorem cn5_ok (n : Nat) (kd : Int) (A0 : Option Addr) (c0 : Nat) (tx : List ByteArray) (tk mt pt : Int) (A1 : Option Addr) (c1 : Nat) (nm : List ByteArray) (A2 : Option Addr) (c2 : Nat) (ks : List ByteArray) (ov : Bool) (lm : Int) (A3 : Option Addr) (c3 : Nat) (ts : List (TestN n)) (A4 : Option Addr) (c4 : Nat) (th : List (CmdN n)) (A5 : Option Addr) (c5 : Nat) (el : List (CmdN n)) (dp : Int) (w : World) (h1 : ¬ kd < 1) (h10 : ¬ 10 < kd) (hn2 : ¬ kd = 2) (hd : ¬ 6 < dp) (hth : th.length ≤ 1048576) (hel : el.length ≤ 1048576) (hk : kd = 5) (ht : tx.length = 1) (b : Bool) (HB : ∀ w', Below w.heap.size w w' → Calls Tryd.prog 160 #[.agg #[.int .i64 tk, .int .i64 mt, .int .i64 pt, .slice A1 nm.length c1, .slice A2 ks.length c2, .bool ov, .int .i64 lm, .slice A3 ts.length c3]] w' fun e w2 => e = .returned (.bool b) ∧ Below w'.heap.size w' w2) : Calls Tryd.prog 111 #[.agg #[.int .i64 kd, .slice A0 tx.length c0, .int .i64 tk, .int .i64 mt, .int .i64 pt, .slice A1 nm.length c1, .slice A2 ks.length c2, .bool ov, .int .i64 lm, .slice A3 ts.length c3, .slice A4 th.length c4, .slice A5 el.length c5], .int .i64 dp] w (fun e w' => e = .returned (.int .i64 (if b = true ∧ th.length = 0 ∧ el.length = 0 then 0 else 3)) ∧ Below w.heap.size w w') := by
  have b1 : (kd == 1) = false := by rw [beq_eq_false_iff_ne]; omega
  have b5 : (kd == 5) = true := by rw [beq_iff_eq]; omega
  have b6 : (kd == 6) = false := by rw [beq_eq_false_iff_ne]; omega
  have b7 : (kd == 7) = false := by rw [beq_eq_false_iff_ne]; omega
  have b8 : (kd == 8) = false := by rw [beq_eq_false_iff_ne]; omega
  have b9 : (kd == 9) = false := by rw [beq_eq_false_iff_ne]; omega
  have j0 : ((tx.length : Int) == 1) = true := by rw [beq_iff_eq]; omega
  clear hk ht
  have js : (th.length : Int) + el.length ≤ 9223372036854775807 := by omega
  have jt : 0 ≤ (th.length : Int) + el.length := by omega
  clear hth hel
  have e2 : (kd == 2) = false := by rw [beq_eq_false_iff_ne]; exact hn2
  replace HB := Lib.hid HB
  clear hn2
  have hs : ((th.length : Int) + el.length > 0) ↔ ¬ (th.length = 0 ∧ el.length = 0) := by omega
  cases b with
  | false =>
    rw [if_neg (by simp)]
    clear hs
    skip
    skip
    skip
    have hP : Blk (w.alloc (.cells #[.int .i64 kd, .slice A0 tx.length c0, .int .i64 tk, .int .i64 mt, .int .i64 pt, .slice A1 nm.length c1, .slice A2 ks.length c2, .bool ov, .int .i64 lm, .slice A3 ts.length c3, .slice A4 th.length c4, .slice A5 el.length c5] 109)) w.heap.size [.int .i64 kd, .slice A0 tx.length c0, .int .i64 tk, .int .i64 mt, .int .i64 pt, .slice A1 nm.length c1, .slice A2 ks.length c2, .bool ov, .int .i64 lm, .slice A3 ts.length c3, .slice A4 th.length c4, .slice A5 el.length c5] := Blk.made w _ _
    have hB : Below w.heap.size w (w.alloc (.cells #[.int .i64 kd, .slice A0 tx.length c0, .int .i64 tk, .int .i64 mt, .int .i64 pt, .slice A1 nm.length c1, .slice A2 ks.length c2, .bool ov, .int .i64 lm, .slice A3 ts.length c3, .slice A4 th.length c4, .slice A5 el.length c5] 109)) := (by repeat (first | exact Below.refl _ _ | apply below_alloc | apply pw_below_drewN | apply below_drew1 | (refine Below.setCell ?_ (by first | (simp; done) | (simp; omega) | omega) _) ))
    have p0 := (hP).at 0 _ rfl
    have p1 := (hP).at 1 _ rfl
    have p2 := (hP).at 2 _ rfl
    have p3 := (hP).at 3 _ rfl
    have p4 := (hP).at 4 _ rfl
    have p5 := (hP).at 5 _ rfl
    have p6 := (hP).at 6 _ rfl
    have p7 := (hP).at 7 _ rfl
    have p8 := (hP).at 8 _ rfl
    have p9 := (hP).at 9 _ rfl
    have p10 := (hP).at 10 _ rfl
    have p11 := (hP).at 11 _ rfl
    go_enter Tryd.func111, Tryd.ntmps111
    go_wp2_with fail
    refine (HB.out _ hB).mono ?_
    rintro e w1 ⟨rfl, hb1⟩
    have hP1 := hP.below hb1 hP.lt
    have hB1 := hB.trans (hb1.mono hB.size)
    clear hP hB p0 p1 p2 p3 p4 p5 p6 p7 p8 p9 p10 p11 hb1
    have p0 := (hP1).at 0 _ rfl
    have p1 := (hP1).at 1 _ rfl
    have p2 := (hP1).at 2 _ rfl
    have p3 := (hP1).at 3 _ rfl
    have p4 := (hP1).at 4 _ rfl
    have p5 := (hP1).at 5 _ rfl
    have p6 := (hP1).at 6 _ rfl
    have p7 := (hP1).at 7 _ rfl
    have p8 := (hP1).at 8 _ rfl
    have p9 := (hP1).at 9 _ rfl
    have p10 := (hP1).at 10 _ rfl
    have p11 := (hP1).at 11 _ rfl
    go_wp2_with fail
    go_ret
    exact ⟨rfl, hB1⟩
  | true =>
    by_cases hz : th.length = 0 ∧ el.length = 0
    · rw [if_pos ⟨rfl, hz⟩]
      have j1 : ¬ (0 : Int) < (th.length : Int) + el.length := by omega
      clear hs hz
      skip
      skip
      skip
      have hP : Blk (w.alloc (.cells #[.int .i64 kd, .slice A0 tx.length c0, .int .i64 tk, .int .i64 mt, .int .i64 pt, .slice A1 nm.length c1, .slice A2 ks.length c2, .bool ov, .int .i64 lm, .slice A3 ts.length c3, .slice A4 th.length c4, .slice A5 el.length c5] 109)) w.heap.size [.int .i64 kd, .slice A0 tx.length c0, .int .i64 tk, .int .i64 mt, .int .i64 pt, .slice A1 nm.length c1, .slice A2 ks.length c2, .bool ov, .int .i64 lm, .slice A3 ts.length c3, .slice A4 th.length c4, .slice A5 el.length c5] := Blk.made w _ _
      have hB : Below w.heap.size w (w.alloc (.cells #[.int .i64 kd, .slice A0 tx.length c0, .int .i64 tk, .int .i64 mt, .int .i64 pt, .slice A1 nm.length c1, .slice A2 ks.length c2, .bool ov, .int .i64 lm, .slice A3 ts.length c3, .slice A4 th.length c4, .slice A5 el.length c5] 109)) := (by repeat (first | exact Below.refl _ _ | apply below_alloc | apply pw_below_drewN | apply below_drew1 | (refine Below.setCell ?_ (by first | (simp; done) | (simp; omega) | omega) _) ))
      have p0 := (hP).at 0 _ rfl
      have p1 := (hP).at 1 _ rfl
      have p2 := (hP).at 2 _ rfl
      have p3 := (hP).at 3 _ rfl
      have p4 := (hP).at 4 _ rfl
      have p5 := (hP).at 5 _ rfl
      have p6 := (hP).at 6 _ rfl
      have p7 := (hP).at 7 _ rfl
      have p8 := (hP).at 8 _ rfl
      have p9 := (hP).at 9 _ rfl
      have p10 := (hP).at 10 _ rfl
      have p11 := (hP).at 11 _ rfl
      go_enter Tryd.func111, Tryd.ntmps111
      go_wp2_with fail
      refine (HB.out _ hB).mono ?_
      rintro e w1 ⟨rfl, hb1⟩
      have hP1 := hP.below hb1 hP.lt
      have hB1 := hB.trans (hb1.mono hB.size)
      clear hP hB p0 p1 p2 p3 p4 p5 p6 p7 p8 p9 p10 p11 hb1
      have p0 := (hP1).at 0 _ rfl
      have p1 := (hP1).at 1 _ rfl
      have p2 := (hP1).at 2 _ rfl
      have p3 := (hP1).at 3 _ rfl
      have p4 := (hP1).at 4 _ rfl
      have p5 := (hP1).at 5 _ rfl
      have p6 := (hP1).at 6 _ rfl
      have p7 := (hP1).at 7 _ rfl
      have p8 := (hP1).at 8 _ rfl
      have p9 := (hP1).at 9 _ rfl
      have p10 := (hP1).at 10 _ rfl
      have p11 := (hP1).at 11 _ rfl
      go_wp2_with fail
      go_ret
      exact ⟨rfl, hB1⟩
    · rw [if_neg (fun h => hz h.2)]
      have j1 : (0 : Int) < (th.length : Int) + el.length := by omega
      clear hs hz
      skip
      skip
      skip
      have hP : Blk (w.alloc (.cells #[.int .i64 kd, .slice A0 tx.length c0, .int .i64 tk, .int .i64 mt, .int .i64 pt, .slice A1 nm.length c1, .slice A2 ks.length c2, .bool ov, .int .i64 lm, .slice A3 ts.length c3, .slice A4 th.length c4, .slice A5 el.length c5] 109)) w.heap.size [.int .i64 kd, .slice A0 tx.length c0, .int .i64 tk, .int .i64 mt, .int .i64 pt, .slice A1 nm.length c1, .slice A2 ks.length c2, .bool ov, .int .i64 lm, .slice A3 ts.length c3, .slice A4 th.length c4, .slice A5 el.length c5] := Blk.made w _ _
      have hB : Below w.heap.size w (w.alloc (.cells #[.int .i64 kd, .slice A0 tx.length c0, .int .i64 tk, .int .i64 mt, .int .i64 pt, .slice A1 nm.length c1, .slice A2 ks.length c2, .bool ov, .int .i64 lm, .slice A3 ts.length c3, .slice A4 th.length c4, .slice A5 el.length c5] 109)) := (by repeat (first | exact Below.refl _ _ | apply below_alloc | apply pw_below_drewN | apply below_drew1 | (refine Below.setCell ?_ (by first | (simp; done) | (simp; omega) | omega) _) ))
      have p0 := (hP).at 0 _ rfl
      have p1 := (hP).at 1 _ rfl
      have p2 := (hP).at 2 _ rfl
      have p3 := (hP).at 3 _ rfl
      have p4 := (hP).at 4 _ rfl
      have p5 := (hP).at 5 _ rfl
      have p6 := (hP).at 6 _ rfl
      have p7 := (hP).at 7 _ rfl
      have p8 := (hP).at 8 _ rfl
      have p9 := (hP).at 9 _ rfl
      have p10 := (hP).at 10 _ rfl
      have p11 := (hP).at 11 _ rfl
      go_enter Tryd.func111, Tryd.ntmps111
      go_wp2_with fail
      refine (HB.out _ hB).mono ?_
      rintro e w1 ⟨rfl, hb1⟩
      have hP1 := hP.below hb1 hP.lt
      have hB1 := hB.trans (hb1.mono hB.size)
      clear hP hB p0 p1 p2 p3 p4 p5 p6 p7 p8 p9 p10 p11 hb1
      have p0 := (hP1).at 0 _ rfl
      have p1 := (hP1).at 1 _ rfl
      have p2 := (hP1).at 2 _ rfl
      have p3 := (hP1).at 3 _ rfl
      have p4 := (hP1).at 4 _ rfl
      have p5 := (hP1).at 5 _ rfl
      have p6 := (hP1).at 6 _ rfl
      have p7 := (hP1).at 7 _ rfl
      have p8 := (hP1).at 8 _ rfl
      have p9 := (hP1).at 9 _ rfl
      have p10 := (hP1).at 10 _ rfl
      have p11 := (hP1).at 11 _ rfl
      go_wp2_with fail
      go_ret
      exact ⟨rfl, hB1⟩
set_option maxHeartbeats 1000000 in
set_option maxRecDepth 100000 in
theorem cn5_bad (n : Nat) (kd : Int) (A0 : Option Addr) (c0 : Nat) (tx : List ByteArray) (tk mt pt : Int) (A1 : Option Addr) (c1 : Nat) (nm : List ByteArray) (A2 : Option Addr) (c2 : Nat) (ks : List ByteArray) (ov : Bool) (lm : Int) (A3 : Option Addr) (c3 : Nat) (ts : List (TestN n)) (A4 : Option Addr) (c4 : Nat) (th : List (CmdN n)) (A5 : Option Addr) (c5 : Nat) (el : List (CmdN n)) (dp : Int) (w : World) (h1 : ¬ kd < 1) (h10 : ¬ 10 < kd) (hn2 : ¬ kd = 2) (hd : ¬ 6 < dp) (hth : th.length ≤ 1048576) (hel : el.length ≤ 1048576) (hk : kd = 5) (ht : ¬ tx.length = 1) : Calls Tryd.prog 111 #[.agg #[.int .i64 kd, .slice A0 tx.length c0, .int .i64 tk, .int .i64 mt, .int .i64 pt, .slice A1 nm.length c1, .slice A2 ks.length c2, .bool ov, .int .i64 lm, .slice A3 ts.length c3, .slice A4 th.length c4, .slice A5 el.length c5], .int .i64 dp] w (fun e w' => e = .returned (.int .i64 3) ∧ Below w.heap.size w w') := by
  have b1 : (kd == 1) = false := by rw [beq_eq_false_iff_ne]; omega
  have b5 : (kd == 5) = true := by rw [beq_iff_eq]; omega
  have b6 : (kd == 6) = false := by rw [beq_eq_false_iff_ne]; omega
  have b7 : (kd == 7) = false := by rw [beq_eq_false_iff_ne]; omega
  have b8 : (kd == 8) = false := by rw [beq_eq_false_iff_ne]; omega
  have b9 : (kd == 9) = false := by rw [beq_eq_false_iff_ne]; omega
  have j0 : ((tx.length : Int) == 1) = false := by rw [beq_eq_false_iff_ne]; omega
  have e2 : (kd == 2) = false := by rw [beq_eq_false_iff_ne]; exact hn2
  clear hk ht hn2
  skip
  have hP : Blk (w.alloc (.cells #[.int .i64 kd, .slice A0 tx.length c0, .int .i64 tk, .int .i64 mt, .int .i64 pt, .slice A1 nm.length c1, .slice A2 ks.length c2, .bool ov, .int .i64 lm, .slice A3 ts.length c3, .slice A4 th.length c4, .slice A5 el.length c5] 109)) w.heap.size [.int .i64 kd, .slice A0 tx.length c0, .int .i64 tk, .int .i64 mt, .int .i64 pt, .slice A1 nm.length c1, .slice A2 ks.length c2, .bool ov, .int .i64 lm, .slice A3 ts.length c3, .slice A4 th.length c4, .slice A5 el.length c5] := Blk.made w _ _
  have hB : Below w.heap.size w (w.alloc (.cells #[.int .i64 kd, .slice A0 tx.length c0, .int .i64 tk, .int .i64 mt, .int .i64 pt, .slice A1 nm.length c1, .slice A2 ks.length c2, .bool ov, .int .i64 lm, .slice A3 ts.length c3, .slice A4 th.length c4, .slice A5 el.length c5] 109)) := (by repeat (first | exact Below.refl _ _ | apply below_alloc | apply pw_below_drewN | apply below_drew1 | (refine Below.setCell ?_ (by first | (simp; done) | (simp; omega) | omega) _) ))
  have p0 := (hP).at 0 _ rfl
  have p1 := (hP).at 1 _ rfl
  have p2 := (hP).at 2 _ rfl
  have p3 := (hP).at 3 _ rfl
  have p4 := (hP).at 4 _ rfl
  have p5 := (hP).at 5 _ rfl
  have p6 := (hP).at 6 _ rfl
  have p7 := (hP).at 7 _ rfl
  have p8 := (hP).at 8 _ rfl
  have p9 := (hP).at 9 _ rfl
  have p10 := (hP).at 10 _ rfl
  have p11 := (hP).at 11 _ rfl
  go_enter Tryd.func111, Tryd.ntmps111
  go_wp2_with fail
  go_ret
  exact ⟨rfl, (by repeat (first | exact Below.refl _ _ | apply below_alloc | apply pw_below_drewN | apply below_drew1 | (refine Below.setCell ?_ (by first | (simp; done) | (simp; omega) | omega) _) ))⟩
set_option maxHeartbeats 1000000 in
set_option maxRecDepth 100000 in
theorem cn6_ok (n : Nat) (kd : Int) (A0 : Option Addr) (c0 : Nat) (tx : List ByteArray) (tk mt pt : Int) (A1 : Option Addr) (c1 : Nat) (nm : List ByteArray) (A2 : Option Addr) (c2 : Nat) (ks : List ByteArray) (ov : Bool) (lm : Int) (A3 : Option Addr) (c3 : Nat) (ts : List (TestN n)) (A4 : Option Addr) (c4 : Nat) (th : List (CmdN n)) (A5 : Option Addr) (c5 : Nat) (el : List (CmdN n)) (dp : Int) (w : World) (h1 : ¬ kd < 1) (h10 : ¬ 10 < kd) (hn2 : ¬ kd = 2) (hd : ¬ 6 < dp) (hth : th.length ≤ 1048576) (hel : el.length ≤ 1048576) (hk : kd = 6) (ht : tx.length = 1) (b : Bool) (HB : ∀ w', Below w.heap.size w w' → Calls Tryd.prog 160 #[.agg #[.int .i64 tk, .int .i64 mt, .int .i64 pt, .slice A1 nm.length c1, .slice A2 ks.length c2, .bool ov, .int .i64 lm, .slice A3 ts.length c3]] w' fun e w2 => e = .returned (.bool b) ∧ Below w'.heap.size w' w2) : Calls Tryd.prog 111 #[.agg #[.int .i64 kd, .slice A0 tx.length c0, .int .i64 tk, .int .i64 mt, .int .i64 pt, .slice A1 nm.length c1, .slice A2 ks.length c2, .bool ov, .int .i64 lm, .slice A3 ts.length c3, .slice A4 th.length c4, .slice A5 el.length c5], .int .i64 dp] w (fun e w' => e = .returned (.int .i64 (if b = true ∧ th.length = 0 ∧ el.length = 0 then 0 else 3)) ∧ Below w.heap.size w w') := by
  have b1 : (kd == 1) = false := by rw [beq_eq_false_iff_ne]; omega
  have b5 : (kd == 5) = false := by rw [beq_eq_false_iff_ne]; omega
  have b6 : (kd == 6) = true := by rw [beq_iff_eq]; omega
  have b7 : (kd == 7) = false := by rw [beq_eq_false_iff_ne]; omega
  have b8 : (kd == 8) = false := by rw [beq_eq_false_iff_ne]; omega
  have b9 : (kd == 9) = false := by rw [beq_eq_false_iff_ne]; omega
  have j0 : ((tx.length : Int) == 1) = true := by rw [beq_iff_eq]; omega
  clear hk ht
  have js : (th.length : Int) + el.length ≤ 9223372036854775807 := by omega
  have jt : 0 ≤ (th.length : Int) + el.length := by omega
  clear hth hel
  have e2 : (kd == 2) = false := by rw [beq_eq_false_iff_ne]; exact hn2
  replace HB := Lib.hid HB
  clear hn2
  have hs : ((th.length : Int) + el.length > 0) ↔ ¬ (th.length = 0 ∧ el.length = 0) := by omega
  cases b with
  | false =>
    rw [if_neg (by simp)]
    clear hs
    skip
    skip
    skip
    have hP : Blk (w.alloc (.cells #[.int .i64 kd, .slice A0 tx.length c0, .int .i64 tk, .int .i64 mt, .int .i64 pt, .slice A1 nm.length c1, .slice A2 ks.length c2, .bool ov, .int .i64 lm, .slice A3 ts.length c3, .slice A4 th.length c4, .slice A5 el.length c5] 109)) w.heap.size [.int .i64 kd, .slice A0 tx.length c0, .int .i64 tk, .int .i64 mt, .int .i64 pt, .slice A1 nm.length c1, .slice A2 ks.length c2, .bool ov, .int .i64 lm, .slice A3 ts.length c3, .slice A4 th.length c4, .slice A5 el.length c5] := Blk.made w _ _
    have hB : Below w.heap.size w (w.alloc (.cells #[.int .i64 kd, .slice A0 tx.length c0, .int .i64 tk, .int .i64 mt, .int .i64 pt, .slice A1 nm.length c1, .slice A2 ks.length c2, .bool ov, .int .i64 lm, .slice A3 ts.length c3, .slice A4 th.length c4, .slice A5 el.length c5] 109)) := (by repeat (first | exact Below.refl _ _ | apply below_alloc | apply pw_below_drewN | apply below_drew1 | (refine Below.setCell ?_ (by first | (simp; done) | (simp; omega) | omega) _) ))
    have p0 := (hP).at 0 _ rfl
    have p1 := (hP).at 1 _ rfl
    have p2 := (hP).at 2 _ rfl
    have p3 := (hP).at 3 _ rfl
    have p4 := (hP).at 4 _ rfl
    have p5 := (hP).at 5 _ rfl
    have p6 := (hP).at 6 _ rfl
    have p7 := (hP).at 7 _ rfl
    have p8 := (hP).at 8 _ rfl
    have p9 := (hP).at 9 _ rfl
    have p10 := (hP).at 10 _ rfl
    have p11 := (hP).at 11 _ rfl
    go_enter Tryd.func111, Tryd.ntmps111
    go_wp2_with fail
    refine (HB.out _ hB).mono ?_
    rintro e w1 ⟨rfl, hb1⟩
    have hP1 := hP.below hb1 hP.lt
    have hB1 := hB.trans (hb1.mono hB.size)
    clear hP hB p0 p1 p2 p3 p4 p5 p6 p7 p8 p9 p10 p11 hb1
    have p0 := (hP1).at 0 _ rfl
    have p1 := (hP1).at 1 _ rfl
    have p2 := (hP1).at 2 _ rfl
    have p3 := (hP1).at 3 _ rfl
    have p4 := (hP1).at 4 _ rfl
    have p5 := (hP1).at 5 _ rfl
    have p6 := (hP1).at 6 _ rfl
    have p7 := (hP1).at 7 _ rfl
    have p8 := (hP1).at 8 _ rfl
    have p9 := (hP1).at 9 _ rfl
    have p10 := (hP1).at 10 _ rfl
    have p11 := (hP1).at 11 _ rfl
    go_wp2_with fail
    go_ret
    exact ⟨rfl, hB1⟩
  | true =>
    by_cases hz : th.length = 0 ∧ el.length = 0
    · rw [if_pos ⟨rfl, hz⟩]
      have j1 : ¬ (0 : Int) < (th.length : Int) + el.length := by omega
      clear hs hz
      skip
      skip
      skip
      have hP : Blk (w.alloc (.cells #[.int .i64 kd, .slice A0 tx.length c0, .int .i64 tk, .int .i64 mt, .int .i64 pt, .slice A1 nm.length c1, .slice A2 ks.length c2, .bool ov, .int .i64 lm, .slice A3 ts.length c3, .slice A4 th.length c4, .slice A5 el.length c5] 109)) w.heap.size [.int .i64 kd, .slice A0 tx.length c0, .int .i64 tk, .int .i64 mt, .int .i64 pt, .slice A1 nm.length c1, .slice A2 ks.length c2, .bool ov, .int .i64 lm, .slice A3 ts.length c3, .slice A4 th.length c4, .slice A5 el.length c5] := Blk.made w _ _
      have hB : Below w.heap.size w (w.alloc (.cells #[.int .i64 kd, .slice A0 tx.length c0, .int .i64 tk, .int .i64 mt, .int .i64 pt, .slice A1 nm.length c1, .slice A2 ks.length c2, .bool ov, .int .i64 lm, .slice A3 ts.length c3, .slice A4 th.length c4, .slice A5 el.length c5] 109)) := (by repeat (first | exact Below.refl _ _ | apply below_alloc | apply pw_below_drewN | apply below_drew1 | (refine Below.setCell ?_ (by first | (simp; done) | (simp; omega) | omega) _) ))
      have p0 := (hP).at 0 _ rfl
      have p1 := (hP).at 1 _ rfl
      have p2 := (hP).at 2 _ rfl
      have p3 := (hP).at 3 _ rfl
      have p4 := (hP).at 4 _ rfl
      have p5 := (hP).at 5 _ rfl
      have p6 := (hP).at 6 _ rfl
      have p7 := (hP).at 7 _ rfl
      have p8 := (hP).at 8 _ rfl
      have p9 := (hP).at 9 _ rfl
      have p10 := (hP).at 10 _ rfl
      have p11 := (hP).at 11 _ rfl
      go_enter Tryd.func111, Tryd.ntmps111
      go_wp2_with fail
      refine (HB.out _ hB).mono ?_
      rintro e w1 ⟨rfl, hb1⟩
      have hP1 := hP.below hb1 hP.lt
      have hB1 := hB.trans (hb1.mono hB.size)
      clear hP hB p0 p1 p2 p3 p4 p5 p6 p7 p8 p9 p10 p11 hb1
      have p0 := (hP1).at 0 _ rfl
      have p1 := (hP1).at 1 _ rfl
      have p2 := (hP1).at 2 _ rfl
      have p3 := (hP1).at 3 _ rfl
      have p4 := (hP1).at 4 _ rfl
      have p5 := (hP1).at 5 _ rfl
      have p6 := (hP1).at 6 _ rfl
      have p7 := (hP1).at 7 _ rfl
      have p8 := (hP1).at 8 _ rfl
      have p9 := (hP1).at 9 _ rfl
      have p10 := (hP1).at 10 _ rfl
      have p11 := (hP1).at 11 _ rfl
      go_wp2_with fail
      go_ret
      exact ⟨rfl, hB1⟩
    · rw [if_neg (fun h => hz h.2)]
      have j1 : (0 : Int) < (th.length : Int) + el.length := by omega
      clear hs hz
      skip
      skip
      skip
      have hP : Blk (w.alloc (.cells #[.int .i64 kd, .slice A0 tx.length c0, .int .i64 tk, .int .i64 mt, .int .i64 pt, .slice A1 nm.length c1, .slice A2 ks.length c2, .bool ov, .int .i64 lm, .slice A3 ts.length c3, .slice A4 th.length c4, .slice A5 el.length c5] 109)) w.heap.size [.int .i64 kd, .slice A0 tx.length c0, .int .i64 tk, .int .i64 mt, .int .i64 pt, .slice A1 nm.length c1, .slice A2 ks.length c2, .bool ov, .int .i64 lm, .slice A3 ts.length c3, .slice A4 th.length c4, .slice A5 el.length c5] := Blk.made w _ _
      have hB : Below w.heap.size w (w.alloc (.cells #[.int .i64 kd, .slice A0 tx.length c0, .int .i64 tk, .int .i64 mt, .int .i64 pt, .slice A1 nm.length c1, .slice A2 ks.length c2, .bool ov, .int .i64 lm, .slice A3 ts.length c3, .slice A4 th.length c4, .slice A5 el.length c5] 109)) := (by repeat (first | exact Below.refl _ _ | apply below_alloc | apply pw_below_drewN | apply below_drew1 | (refine Below.setCell ?_ (by first | (simp; done) | (simp; omega) | omega) _) ))
      have p0 := (hP).at 0 _ rfl
      have p1 := (hP).at 1 _ rfl
      have p2 := (hP).at 2 _ rfl
      have p3 := (hP).at 3 _ rfl
      have p4 := (hP).at 4 _ rfl
      have p5 := (hP).at 5 _ rfl
      have p6 := (hP).at 6 _ rfl
      have p7 := (hP).at 7 _ rfl
      have p8 := (hP).at 8 _ rfl
      have p9 := (hP).at 9 _ rfl
      have p10 := (hP).at 10 _ rfl
      have p11 := (hP).at 11 _ rfl
      go_enter Tryd.func111, Tryd.ntmps111
      go_wp2_with fail
      refine (HB.out _ hB).mono ?_
      rintro e w1 ⟨rfl, hb1⟩
      have hP1 := hP.below hb1 hP.lt
      have hB1 := hB.trans (hb1.mono hB.size)
      clear hP hB p0 p1 p2 p3 p4 p5 p6 p7 p8 p9 p10 p11 hb1
      have p0 := (hP1).at 0 _ rfl
      have p1 := (hP1).at 1 _ rfl
      have p2 := (hP1).at 2 _ rfl
      have p3 := (hP1).at 3 _ rfl
      have p4 := (hP1).at 4 _ rfl
      have p5 := (hP1).at 5 _ rfl
      have p6 := (hP1).at 6 _ rfl
      have p7 := (hP1).at 7 _ rfl
      have p8 := (hP1).at 8 _ rfl
      have p9 := (hP1).at 9 _ rfl
      have p10 := (hP1).at 10 _ rfl
      have p11 := (hP1).at 11 _ rfl
      go_wp2_with fail
      go_ret
      exact ⟨rfl, hB1⟩
set_option maxHeartbeats 1000000 in
set_option maxRecDepth 100000 in
theorem cn6_bad (n : Nat) (kd : Int) (A0 : Option Addr) (c0 : Nat) (tx : List ByteArray) (tk mt pt : Int) (A1 : Option Addr) (c1 : Nat) (nm : List ByteArray) (A2 : Option Addr) (c2 : Nat) (ks : List ByteArray) (ov : Bool) (lm : Int) (A3 : Option Addr) (c3 : Nat) (ts : List (TestN n)) (A4 : Option Addr) (c4 : Nat) (th : List (CmdN n)) (A5 : Option Addr) (c5 : Nat) (el : List (CmdN n)) (dp : Int) (w : World) (h1 : ¬ kd < 1) (h10 : ¬ 10 < kd) (hn2 : ¬ kd = 2) (hd : ¬ 6 < dp) (hth : th.length ≤ 1048576) (hel : el.length ≤ 1048576) (hk : kd = 6) (ht : ¬ tx.length = 1) : Calls Tryd.prog 111 #[.agg #[.int .i64 kd, .slice A0 tx.length c0, .int .i64 tk, .int .i64 mt, .int .i64 pt, .slice A1 nm.length c1, .slice A2 ks.length c2, .bool ov, .int .i64 lm, .slice A3 ts.length c3, .slice A4 th.length c4, .slice A5 el.length c5], .int .i64 dp] w (fun e w' => e = .returned (.int .i64 3) ∧ Below w.heap.size w w') := by
  have b1 : (kd == 1) = false := by rw [beq_eq_false_iff_ne]; omega
  have b5 : (kd == 5) = false := by rw [beq_eq_false_iff_ne]; omega
  have b6 : (kd == 6) = true := by rw [beq_iff_eq]; omega
  have b7 : (kd == 7) = false := by rw [beq_eq_false_iff_ne]; omega
  have b8 : (kd == 8) = false := by rw [beq_eq_false_iff_ne]; omega
  have b9 : (kd == 9) = false := by rw [beq_eq_false_iff_ne]; omega
  have j0 : ((tx.length : Int) == 1) = false := by rw [beq_eq_false_iff_ne]; omega
  have e2 : (kd == 2) = false := by rw [beq_eq_false_iff_ne]; exact hn2
  clear hk ht hn2
  skip
  have hP : Blk (w.alloc (.cells #[.int .i64 kd, .slice A0 tx.length c0, .int .i64 tk, .int .i64 mt, .int .i64 pt, .slice A1 nm.length c1, .slice A2 ks.length c2, .bool ov, .int .i64 lm, .slice A3 ts.length c3, .slice A4 th.length c4, .slice A5 el.length c5] 109)) w.heap.size [.int .i64 kd, .slice A0 tx.length c0, .int .i64 tk, .int .i64 mt, .int .i64 pt, .slice A1 nm.length c1, .slice A2 ks.length c2, .bool ov, .int .i64 lm, .slice A3 ts.length c3, .slice A4 th.length c4, .slice A5 el.length c5] := Blk.made w _ _
  have hB : Below w.heap.size w (w.alloc (.cells #[.int .i64 kd, .slice A0 tx.length c0, .int .i64 tk, .int .i64 mt, .int .i64 pt, .slice A1 nm.length c1, .slice A2 ks.length c2, .bool ov, .int .i64 lm, .slice A3 ts.length c3, .slice A4 th.length c4, .slice A5 el.length c5] 109)) := (by repeat (first | exact Below.refl _ _ | apply below_alloc | apply pw_below_drewN | apply below_drew1 | (refine Below.setCell ?_ (by first | (simp; done) | (simp; omega) | omega) _) ))
  have p0 := (hP).at 0 _ rfl
  have p1 := (hP).at 1 _ rfl
  have p2 := (hP).at 2 _ rfl
  have p3 := (hP).at 3 _ rfl
  have p4 := (hP).at 4 _ rfl
  have p5 := (hP).at 5 _ rfl
  have p6 := (hP).at 6 _ rfl
  have p7 := (hP).at 7 _ rfl
  have p8 := (hP).at 8 _ rfl
  have p9 := (hP).at 9 _ rfl
  have p10 := (hP).at 10 _ rfl
  have p11 := (hP).at 11 _ rfl
  go_enter Tryd.func111, Tryd.ntmps111
  go_wp2_with fail
  go_ret
  exact ⟨rfl, (by repeat (first | exact Below.refl _ _ | apply below_alloc | apply pw_below_drewN | apply below_drew1 | (refine Below.setCell ?_ (by first | (simp; done) | (simp; omega) | omega) _) ))⟩
set_option maxHeartbeats 1000000 in
set_option maxRecDepth 100000 in
theorem cn7_ok (n : Nat) (kd : Int) (A0 : Option Addr) (c0 : Nat) (tx : List ByteArray) (tk mt pt : Int) (A1 : Option Addr) (c1 : Nat) (nm : List ByteArray) (A2 : Option Addr) (c2 : Nat) (ks : List ByteArray) (ov : Bool) (lm : Int) (A3 : Option Addr) (c3 : Nat) (ts : List (TestN n)) (A4 : Option Addr) (c4 : Nat) (th : List (CmdN n)) (A5 : Option Addr) (c5 : Nat) (el : List (CmdN n)) (dp : Int) (w : World) (h1 : ¬ kd < 1) (h10 : ¬ 10 < kd) (hn2 : ¬ kd = 2) (hd : ¬ 6 < dp) (hth : th.length ≤ 1048576) (hel : el.length ≤ 1048576) (hk : kd = 7) (ht : tx.length = 1) (b : Bool) (HB : ∀ w', Below w.heap.size w w' → Calls Tryd.prog 160 #[.agg #[.int .i64 tk, .int .i64 mt, .int .i64 pt, .slice A1 nm.length c1, .slice A2 ks.length c2, .bool ov, .int .i64 lm, .slice A3 ts.length c3]] w' fun e w2 => e = .returned (.bool b) ∧ Below w'.heap.size w' w2) : Calls Tryd.prog 111 #[.agg #[.int .i64 kd, .slice A0 tx.length c0, .int .i64 tk, .int .i64 mt, .int .i64 pt, .slice A1 nm.length c1, .slice A2 ks.length c2, .bool ov, .int .i64 lm, .slice A3 ts.length c3, .slice A4 th.length c4, .slice A5 el.length c5], .int .i64 dp] w (fun e w' => e = .returned (.int .i64 (if b = true ∧ th.length = 0 ∧ el.length = 0 then 0 else 3)) ∧ Below w.heap.size w w') := by
  have b1 : (kd == 1) = false := by rw [beq_eq_false_iff_ne]; omega
  have b5 : (kd == 5) = false := by rw [beq_eq_false_iff_ne]; omega
  have b6 : (kd == 6) = false := by rw [beq_eq_false_iff_ne]; omega
  have b7 : (kd == 7) = true := by rw [beq_iff_eq]; omega
  have b8 : (kd == 8) = false := by rw [beq_eq_false_iff_ne]; omega
  have b9 : (kd == 9) = false := by rw [beq_eq_false_iff_ne]; omega
  have j0 : ((tx.length : Int) == 1) = true := by rw [beq_iff_eq]; omega
  clear hk ht
  have js : (th.length : Int) + el.length ≤ 9223372036854775807 := by omega
  have jt : 0 ≤ (th.length : Int) + el.length := by omega
  clear hth hel
  have e2 : (kd == 2) = false := by rw [beq_eq_false_iff_ne]; exact hn2
  replace HB := Lib.hid HB
  clear hn2
  have hs : ((th.length : Int) + el.length > 0) ↔ ¬ (th.length = 0 ∧ el.length = 0) := by omega
  cases b with
  | false =>
    rw [if_neg (by simp)]
    clear hs
    skip
    skip
    skip
    have hP : Blk (w.alloc (.cells #[.int .i64 kd, .slice A0 tx.length c0, .int .i64 tk, .int .i64 mt, .int .i64 pt, .slice A1 nm.length c1, .slice A2 ks.length c2, .bool ov, .int .i64 lm, .slice A3 ts.length c3, .slice A4 th.length c4, .slice A5 el.length c5] 109)) w.heap.size [.int .i64 kd, .slice A0 tx.length c0, .int .i64 tk, .int .i64 mt, .int .i64 pt, .slice A1 nm.length c1, .slice A2 ks.length c2, .bool ov, .int .i64 lm, .slice A3 ts.length c3, .slice A4 th.length c4, .slice A5 el.length c5] := Blk.made w _ _
    have hB : Below w.heap.size w (w.alloc (.cells #[.int .i64 kd, .slice A0 tx.length c0, .int .i64 tk, .int .i64 mt, .int .i64 pt, .slice A1 nm.length c1, .slice A2 ks.length c2, .bool ov, .int .i64 lm, .slice A3 ts.length c3, .slice A4 th.length c4, .slice A5 el.length c5] 109)) := (by repeat (first | exact Below.refl _ _ | apply below_alloc | apply pw_below_drewN | apply below_drew1 | (refine Below.setCell ?_ (by first | (simp; done) | (simp; omega) | omega) _) ))
    have p0 := (hP).at 0 _ rfl
    have p1 := (hP).at 1 _ rfl
    have p2 := (hP).at 2 _ rfl
    have p3 := (hP).at 3 _ rfl
    have p4 := (hP).at 4 _ rfl
    have p5 := (hP).at 5 _ rfl
    have p6 := (hP).at 6 _ rfl
    have p7 := (hP).at 7 _ rfl
    have p8 := (hP).at 8 _ rfl
    have p9 := (hP).at 9 _ rfl
    have p10 := (hP).at 10 _ rfl
    have p11 := (hP).at 11 _ rfl
    go_enter Tryd.func111, Tryd.ntmps111
    go_wp2_with fail
    refine (HB.out _ hB).mono ?_
    rintro e w1 ⟨rfl, hb1⟩
    have hP1 := hP.below hb1 hP.lt
    have hB1 := hB.trans (hb1.mono hB.size)
    clear hP hB p0 p1 p2 p3 p4 p5 p6 p7 p8 p9 p10 p11 hb1
    have p0 := (hP1).at 0 _ rfl
    have p1 := (hP1).at 1 _ rfl
    have p2 := (hP1).at 2 _ rfl
    have p3 := (hP1).at 3 _ rfl
    have p4 := (hP1).at 4 _ rfl
    have p5 := (hP1).at 5 _ rfl
    have p6 := (hP1).at 6 _ rfl
    have p7 := (hP1).at 7 _ rfl
    have p8 := (hP1).at 8 _ rfl
    have p9 := (hP1).at 9 _ rfl
    have p10 := (hP1).at 10 _ rfl
    have p11 := (hP1).at 11 _ rfl
    go_wp2_with fail
    go_ret
    exact ⟨rfl, hB1⟩
  | true =>
    by_cases hz : th.length = 0 ∧ el.length = 0
    · rw [if_pos ⟨rfl, hz⟩]
      have j1 : ¬ (0 : Int) < (th.length : Int) + el.length := by omega
      clear hs hz
      skip
      skip
      skip
      have hP : Blk (w.alloc (.cells #[.int .i64 kd, .slice A0 tx.length c0, .int .i64 tk, .int .i64 mt, .int .i64 pt, .slice A1 nm.length c1, .slice A2 ks.length c2, .bool ov, .int .i64 lm, .slice A3 ts.length c3, .slice A4 th.length c4, .slice A5 el.length c5] 109)) w.heap.size [.int .i64 kd, .slice A0 tx.length c0, .int .i64 tk, .int .i64 mt, .int .i64 pt, .slice A1 nm.length c1, .slice A2 ks.length c2, .bool ov, .int .i64 lm, .slice A3 ts.length c3, .slice A4 th.length c4, .slice A5 el.length c5] := Blk.made w _ _
      have hB : Below w.heap.size w (w.alloc (.cells #[.int .i64 kd, .slice A0 tx.length c0, .int .i64 tk, .int .i64 mt, .int .i64 pt, .slice A1 nm.length c1, .slice A2 ks.length c2, .bool ov, .int .i64 lm, .slice A3 ts.length c3, .slice A4 th.length c4, .slice A5 el.length c5] 109)) := (by repeat (first | exact Below.refl _ _ | apply below_alloc | apply pw_below_drewN | apply below_drew1 | (refine Below.setCell ?_ (by first | (simp; done) | (simp; omega) | omega) _) ))
      have p0 := (hP).at 0 _ rfl
      have p1 := (hP).at 1 _ rfl
      have p2 := (hP).at 2 _ rfl
      have p3 := (hP).at 3 _ rfl
      have p4 := (hP).at 4 _ rfl
      have p5 := (hP).at 5 _ rfl
      have p6 := (hP).at 6 _ rfl
      have p7 := (hP).at 7 _ rfl
      have p8 := (hP).at 8 _ rfl
      have p9 := (hP).at 9 _ rfl
      have p10 := (hP).at 10 _ rfl
      have p11 := (hP).at 11 _ rfl
      go_enter Tryd.func111, Tryd.ntmps111
      go_wp2_with fail
      refine (HB.out _ hB).mono ?_
      rintro e w1 ⟨rfl, hb1⟩
      have hP1 := hP.below hb1 hP.lt
      have hB1 := hB.trans (hb1.mono hB.size)
      clear hP hB p0 p1 p2 p3 p4 p5 p6 p7 p8 p9 p10 p11 hb1
      have p0 := (hP1).at 0 _ rfl
      have p1 := (hP1).at 1 _ rfl
      have p2 := (hP1).at 2 _ rfl
      have p3 := (hP1).at 3 _ rfl
      have p4 := (hP1).at 4 _ rfl
      have p5 := (hP1).at 5 _ rfl
      have p6 := (hP1).at 6 _ rfl
      have p7 := (hP1).at 7 _ rfl
      have p8 := (hP1).at 8 _ rfl
      have p9 := (hP1).at 9 _ rfl
      have p10 := (hP1).at 10 _ rfl
      have p11 := (hP1).at 11 _ rfl
      go_wp2_with fail
      go_ret
      exact ⟨rfl, hB1⟩
    · rw [if_neg (fun h => hz h.2)]
      have j1 : (0 : Int) < (th.length : Int) + el.length := by omega
      clear hs hz
      skip
      skip
      skip
      have hP : Blk (w.alloc (.cells #[.int .i64 kd, .slice A0 tx.length c0, .int .i64 tk, .int .i64 mt, .int .i64 pt, .slice A1 nm.length c1, .slice A2 ks.length c2, .bool ov, .int .i64 lm, .slice A3 ts.length c3, .slice A4 th.length c4, .slice A5 el.length c5] 109)) w.heap.size [.int .i64 kd, .slice A0 tx.length c0, .int .i64 tk, .int .i64 mt, .int .i64 pt, .slice A1 nm.length c1, .slice A2 ks.length c2, .bool ov, .int .i64 lm, .slice A3 ts.length c3, .slice A4 th.length c4, .slice A5 el.length c5] := Blk.made w _ _
      have hB : Below w.heap.size w (w.alloc (.cells #[.int .i64 kd, .slice A0 tx.length c0, .int .i64 tk, .int .i64 mt, .int .i64 pt, .slice A1 nm.length c1, .slice A2 ks.length c2, .bool ov, .int .i64 lm, .slice A3 ts.length c3, .slice A4 th.length c4, .slice A5 el.length c5] 109)) := (by repeat (first | exact Below.refl _ _ | apply below_alloc | apply pw_below_drewN | apply below_drew1 | (refine Below.setCell ?_ (by first | (simp; done) | (simp; omega) | omega) _) ))
      have p0 := (hP).at 0 _ rfl
      have p1 := (hP).at 1 _ rfl
      have p2 := (hP).at 2 _ rfl
      have p3 := (hP).at 3 _ rfl
      have p4 := (hP).at 4 _ rfl
      have p5 := (hP).at 5 _ rfl
      have p6 := (hP).at 6 _ rfl
      have p7 := (hP).at 7 _ rfl
      have p8 := (hP).at 8 _ rfl
      have p9 := (hP).at 9 _ rfl
      have p10 := (hP).at 10 _ rfl
      have p11 := (hP).at 11 _ rfl
      go_enter Tryd.func111, Tryd.ntmps111
      go_wp2_with fail
      refine (HB.out _ hB).mono ?_
      rintro e w1 ⟨rfl, hb1⟩
      have hP1 := hP.below hb1 hP.lt
      have hB1 := hB.trans (hb1.mono hB.size)
      clear hP hB p0 p1 p2 p3 p4 p5 p6 p7 p8 p9 p10 p11 hb1
      have p0 := (hP1).at 0 _ rfl
      have p1 := (hP1).at 1 _ rfl
      have p2 := (hP1).at 2 _ rfl
      have p3 := (hP1).at 3 _ rfl
      have p4 := (hP1).at 4 _ rfl
      have p5 := (hP1).at 5 _ rfl
      have p6 := (hP1).at 6 _ rfl
      have p7 := (hP1).at 7 _ rfl
      have p8 := (hP1).at 8 _ rfl
      have p9 := (hP1).at 9 _ rfl
      have p10 := (hP1).at 10 _ rfl
      have p11 := (hP1).at 11 _ rfl
      go_wp2_with fail
      go_ret
      exact ⟨rfl, hB1⟩
set_option maxHeartbeats 1000000 in
set_option maxRecDepth 100000 in
theorem cn7_bad (n : Nat) (kd : Int) (A0 : Option Addr) (c0 : Nat) (tx : List ByteArray) (tk mt pt : Int) (A1 : Option Addr) (c1 : Nat) (nm : List ByteArray) (A2 : Option Addr) (c2 : Nat) (ks : List ByteArray) (ov : Bool) (lm : Int) (A3 : Option Addr) (c3 : Nat) (ts : List (TestN n)) (A4 : Option Addr) (c4 : Nat) (th : List (CmdN n)) (A5 : Option Addr) (c5 : Nat) (el : List (CmdN n)) (dp : Int) (w : World) (h1 : ¬ kd < 1) (h10 : ¬ 10 < kd) (hn2 : ¬ kd = 2) (hd : ¬ 6 < dp) (hth : th.length ≤ 1048576) (hel : el.length ≤ 1048576) (hk : kd = 7) (ht : ¬ tx.length = 1) : Calls Tryd.prog 111 #[.agg #[.int .i64 kd, .slice A0 tx.length c0, .int .i64 tk, .int .i64 mt, .int .i64 pt, .slice A1 nm.length c1, .slice A2 ks.length c2, .bool ov, .int .i64 lm, .slice A3 ts.length c3, .slice A4 th.length c4, .slice A5 el.length c5], .int .i64 dp] w (fun e w' => e = .returned (.int .i64 3) ∧ Below w.heap.size w w') := by
  have b1 : (kd == 1) = false := by rw [beq_eq_false_iff_ne]; omega
  have b5 : (kd == 5) = false := by rw [beq_eq_false_iff_ne]; omega
  have b6 : (kd == 6) = false := by rw [beq_eq_false_iff_ne]; omega
  have b7 : (kd == 7) = true := by rw [beq_iff_eq]; omega
  have b8 : (kd == 8) = false := by rw [beq_eq_false_iff_ne]; omega
  have b9 : (kd == 9) = false := by rw [beq_eq_false_iff_ne]; omega
  have j0 : ((tx.length : Int) == 1) = false := by rw [beq_eq_false_iff_ne]; omega
  have e2 : (kd == 2) = false := by rw [beq_eq_false_iff_ne]; exact hn2
  clear hk ht hn2
  skip
  have hP : Blk (w.alloc (.cells #[.int .i64 kd, .slice A0 tx.length c0, .int .i64 tk, .int .i64 mt, .int .i64 pt, .slice A1 nm.length c1, .slice A2 ks.length c2, .bool ov, .int .i64 lm, .slice A3 ts.length c3, .slice A4 th.length c4, .slice A5 el.length c5] 109)) w.heap.size [.int .i64 kd, .slice A0 tx.length c0, .int .i64 tk, .int .i64 mt, .int .i64 pt, .slice A1 nm.length c1, .slice A2 ks.length c2, .bool ov, .int .i64 lm, .slice A3 ts.length c3, .slice A4 th.length c4, .slice A5 el.length c5] := Blk.made w _ _
  have hB : Below w.heap.size w (w.alloc (.cells #[.int .i64 kd, .slice A0 tx.length c0, .int .i64 tk, .int .i64 mt, .int .i64 pt, .slice A1 nm.length c1, .slice A2 ks.length c2, .bool ov, .int .i64 lm, .slice A3 ts.length c3, .slice A4 th.length c4, .slice A5 el.length c5] 109)) := (by repeat (first | exact Below.refl _ _ | apply below_alloc | apply pw_below_drewN | apply below_drew1 | (refine Below.setCell ?_ (by first | (simp; done) | (simp; omega) | omega) _) ))
  have p0 := (hP).at 0 _ rfl
  have p1 := (hP).at 1 _ rfl
  have p2 := (hP).at 2 _ rfl
  have p3 := (hP).at 3 _ rfl
  have p4 := (hP).at 4 _ rfl
  have p5 := (hP).at 5 _ rfl
  have p6 := (hP).at 6 _ rfl
  have p7 := (hP).at 7 _ rfl
  have p8 := (hP).at 8 _ rfl
  have p9 := (hP).at 9 _ rfl
  have p10 := (hP).at 10 _ rfl
  have p11 := (hP).at 11 _ rfl
  go_enter Tryd.func111, Tryd.ntmps111
  go_wp2_with fail
  go_ret
  exact ⟨rfl, (by repeat (first | exact Below.refl _ _ | apply below_alloc | apply pw_below_drewN | apply below_drew1 | (refine Below.setCell ?_ (by first | (simp; done) | (simp; omega) | omega) _) ))⟩
set_option maxHeartbeats 1000000 in
set_option maxRecDepth 100000 in
theorem cn3_ok (n : Nat) (kd : Int) (A0 : Option Addr) (c0 : Nat) (tx : List ByteArray) (tk mt pt : Int) (A1 : Option Addr) (c1 : Nat) (nm : List ByteArray) (A2 : Option Addr) (c2 : Nat) (ks : List ByteArray) (ov : Bool) (lm : Int) (A3 : Option Addr) (c3 : Nat) (ts : List (TestN n)) (A4 : Option Addr) (c4 : Nat) (th : List (CmdN n)) (A5 : Option Addr) (c5 : Nat) (el : List (CmdN n)) (dp : Int) (w : World) (h1 : ¬ kd < 1) (h10 : ¬ 10 < kd) (hn2 : ¬ kd = 2) (hd : ¬ 6 < dp) (hth : th.length ≤ 1048576) (hel : el.length ≤ 1048576) (hk : kd = 3 ∨ kd = 4 ∨ kd = 10) (ht : tx.length = 0) (b : Bool) (HB : ∀ w', Below w.heap.size w w' → Calls Tryd.prog 160 #[.agg #[.int .i64 tk, .int .i64 mt, .int .i64 pt, .slice A1 nm.length c1, .slice A2 ks.length c2, .bool ov, .int .i64 lm, .slice A3 ts.length c3]] w' fun e w2 => e = .returned (.bool b) ∧ Below w'.heap.size w' w2) : Calls Tryd.prog 111 #[.agg #[.int .i64 kd, .slice A0 tx.length c0, .int .i64 tk, .int .i64 mt, .int .i64 pt, .slice A1 nm.length c1, .slice A2 ks.length c2, .bool ov, .int .i64 lm, .slice A3 ts.length c3, .slice A4 th.length c4, .slice A5 el.length c5], .int .i64 dp] w (fun e w' => e = .returned (.int .i64 (if b = true ∧ th.length = 0 ∧ el.length = 0 then 0 else 3)) ∧ Below w.heap.size w w') := by
  have b1 : (kd == 1) = false := by rw [beq_eq_false_iff_ne]; omega
  have b5 : (kd == 5) = false := by rw [beq_eq_false_iff_ne]; omega
  have b6 : (kd == 6) = false := by rw [beq_eq_false_iff_ne]; omega
  have b7 : (kd == 7) = false := by rw [beq_eq_false_iff_ne]; omega
  have b8 : (kd == 8) = false := by rw [beq_eq_false_iff_ne]; omega
  have b9 : (kd == 9) = false := by rw [beq_eq_false_iff_ne]; omega
  have j0 : ((tx.length : Int) == 0) = true := by rw [beq_iff_eq]; omega
  clear hk ht
  have js : (th.length : Int) + el.length ≤ 9223372036854775807 := by omega
  have jt : 0 ≤ (th.length : Int) + el.length := by omega
  clear hth hel
  have e2 : (kd == 2) = false := by rw [beq_eq_false_iff_ne]; exact hn2
  replace HB := Lib.hid HB
  clear hn2
  have hs : ((th.length : Int) + el.length > 0) ↔ ¬ (th.length = 0 ∧ el.length = 0) := by omega
  cases b with
  | false =>
    rw [if_neg (by simp)]
    clear hs
    skip
    skip
    skip
    have hP : Blk (w.alloc (.cells #[.int .i64 kd, .slice A0 tx.length c0, .int .i64 tk, .int .i64 mt, .int .i64 pt, .slice A1 nm.length c1, .slice A2 ks.length c2, .bool ov, .int .i64 lm, .slice A3 ts.length c3, .slice A4 th.length c4, .slice A5 el.length c5] 109)) w.heap.size [.int .i64 kd, .slice A0 tx.length c0, .int .i64 tk, .int .i64 mt, .int .i64 pt, .slice A1 nm.length c1, .slice A2 ks.length c2, .bool ov, .int .i64 lm, .slice A3 ts.length c3, .slice A4 th.length c4, .slice A5 el.length c5] := Blk.made w _ _
    have hB : Below w.heap.size w (w.alloc (.cells #[.int .i64 kd, .slice A0 tx.length c0, .int .i64 tk, .int .i64 mt, .int .i64 pt, .slice A1 nm.length c1, .slice A2 ks.length c2, .bool ov, .int .i64 lm, .slice A3 ts.length c3, .slice A4 th.length c4, .slice A5 el.length c5] 109)) := (by repeat (first | exact Below.refl _ _ | apply below_alloc | apply pw_below_drewN | apply below_drew1 | (refine Below.setCell ?_ (by first | (simp; done) | (simp; omega) | omega) _) ))
    have p0 := (hP).at 0 _ rfl
    have p1 := (hP).at 1 _ rfl
    have p2 := (hP).at 2 _ rfl
    have p3 := (hP).at 3 _ rfl
    have p4 := (hP).at 4 _ rfl
    have p5 := (hP).at 5 _ rfl
    have p6 := (hP).at 6 _ rfl
    have p7 := (hP).at 7 _ rfl
    have p8 := (hP).at 8 _ rfl
    have p9 := (hP).at 9 _ rfl
    have p10 := (hP).at 10 _ rfl
    have p11 := (hP).at 11 _ rfl
    go_enter Tryd.func111, Tryd.ntmps111
    go_wp2_with fail
    refine (HB.out _ hB).mono ?_
    rintro e w1 ⟨rfl, hb1⟩
    have hP1 := hP.below hb1 hP.lt
    have hB1 := hB.trans (hb1.mono hB.size)
    clear hP hB p0 p1 p2 p3 p4 p5 p6 p7 p8 p9 p10 p11 hb1
    have p0 := (hP1).at 0 _ rfl
    have p1 := (hP1).at 1 _ rfl
    have p2 := (hP1).at 2 _ rfl
    have p3 := (hP1).at 3 _ rfl
    have p4 := (hP1).at 4 _ rfl
    have p5 := (hP1).at 5 _ rfl
    have p6 := (hP1).at 6 _ rfl
    have p7 := (hP1).at 7 _ rfl
    have p8 := (hP1).at 8 _ rfl
    have p9 := (hP1).at 9 _ rfl
    have p10 := (hP1).at 10 _ rfl
    have p11 := (hP1).at 11 _ rfl
    go_wp2_with fail
    go_ret
    exact ⟨rfl, hB1⟩
  | true =>
    by_cases hz : th.length = 0 ∧ el.length = 0
    · rw [if_pos ⟨rfl, hz⟩]
      have j1 : ¬ (0 : Int) < (th.length : Int) + el.length := by omega
      clear hs hz
      skip
      skip
      skip
      have hP : Blk (w.alloc (.cells #[.int .i64 kd, .slice A0 tx.length c0, .int .i64 tk, .int .i64 mt, .int .i64 pt, .slice A1 nm.length c1, .slice A2 ks.length c2, .bool ov, .int .i64 lm, .slice A3 ts.length c3, .slice A4 th.length c4, .slice A5 el.length c5] 109)) w.heap.size [.int .i64 kd, .slice A0 tx.length c0, .int .i64 tk, .int .i64 mt, .int .i64 pt, .slice A1 nm.length c1, .slice A2 ks.length c2, .bool ov, .int .i64 lm, .slice A3 ts.length c3, .slice A4 th.length c4, .slice A5 el.length c5] := Blk.made w _ _
      have hB : Below w.heap.size w (w.alloc (.cells #[.int .i64 kd, .slice A0 tx.length c0, .int .i64 tk, .int .i64 mt, .int .i64 pt, .slice A1 nm.length c1, .slice A2 ks.length c2, .bool ov, .int .i64 lm, .slice A3 ts.length c3, .slice A4 th.length c4, .slice A5 el.length c5] 109)) := (by repeat (first | exact Below.refl _ _ | apply below_alloc | apply pw_below_drewN | apply below_drew1 | (refine Below.setCell ?_ (by first | (simp; done) | (simp; omega) | omega) _) ))
      have p0 := (hP).at 0 _ rfl
      have p1 := (hP).at 1 _ rfl
      have p2 := (hP).at 2 _ rfl
      have p3 := (hP).at 3 _ rfl
      have p4 := (hP).at 4 _ rfl
      have p5 := (hP).at 5 _ rfl
      have p6 := (hP).at 6 _ rfl
      have p7 := (hP).at 7 _ rfl
      have p8 := (hP).at 8 _ rfl
      have p9 := (hP).at 9 _ rfl
      have p10 := (hP).at 10 _ rfl
      have p11 := (hP).at 11 _ rfl
      go_enter Tryd.func111, Tryd.ntmps111
      go_wp2_with fail
      refine (HB.out _ hB).mono ?_
      rintro e w1 ⟨rfl, hb1⟩
      have hP1 := hP.below hb1 hP.lt
      have hB1 := hB.trans (hb1.mono hB.size)
      clear hP hB p0 p1 p2 p3 p4 p5 p6 p7 p8 p9 p10 p11 hb1
      have p0 := (hP1).at 0 _ rfl
      have p1 := (hP1).at 1 _ rfl
      have p2 := (hP1).at 2 _ rfl
      have p3 := (hP1).at 3 _ rfl
      have p4 := (hP1).at 4 _ rfl
      have p5 := (hP1).at 5 _ rfl
      have p6 := (hP1).at 6 _ rfl
      have p7 := (hP1).at 7 _ rfl
      have p8 := (hP1).at 8 _ rfl
      have p9 := (hP1).at 9 _ rfl
      have p10 := (hP1).at 10 _ rfl
      have p11 := (hP1).at 11 _ rfl
      go_wp2_with fail
      go_ret
      exact ⟨rfl, hB1⟩
    · rw [if_neg (fun h => hz h.2)]
      have j1 : (0 : Int) < (th.length : Int) + el.length := by omega
      clear hs hz
      skip
      skip
      skip
      have hP : Blk (w.alloc (.cells #[.int .i64 kd, .slice A0 tx.length c0, .int .i64 tk, .int .i64 mt, .int .i64 pt, .slice A1 nm.length c1, .slice A2 ks.length c2, .bool ov, .int .i64 lm, .slice A3 ts.length c3, .slice A4 th.length c4, .slice A5 el.length c5] 109)) w.heap.size [.int .i64 kd, .slice A0 tx.length c0, .int .i64 tk, .int .i64 mt, .int .i64 pt, .slice A1 nm.length c1, .slice A2 ks.length c2, .bool ov, .int .i64 lm, .slice A3 ts.length c3, .slice A4 th.length c4, .slice A5 el.length c5] := Blk.made w _ _
      have hB : Below w.heap.size w (w.alloc (.cells #[.int .i64 kd, .slice A0 tx.length c0, .int .i64 tk, .int .i64 mt, .int .i64 pt, .slice A1 nm.length c1, .slice A2 ks.length c2, .bool ov, .int .i64 lm, .slice A3 ts.length c3, .slice A4 th.length c4, .slice A5 el.length c5] 109)) := (by repeat (first | exact Below.refl _ _ | apply below_alloc | apply pw_below_drewN | apply below_drew1 | (refine Below.setCell ?_ (by first | (simp; done) | (simp; omega) | omega) _) ))
      have p0 := (hP).at 0 _ rfl
      have p1 := (hP).at 1 _ rfl
      have p2 := (hP).at 2 _ rfl
      have p3 := (hP).at 3 _ rfl
      have p4 := (hP).at 4 _ rfl
      have p5 := (hP).at 5 _ rfl
      have p6 := (hP).at 6 _ rfl
      have p7 := (hP).at 7 _ rfl
      have p8 := (hP).at 8 _ rfl
      have p9 := (hP).at 9 _ rfl
      have p10 := (hP).at 10 _ rfl
      have p11 := (hP).at 11 _ rfl
      go_enter Tryd.func111, Tryd.ntmps111
      go_wp2_with fail
      refine (HB.out _ hB).mono ?_
      rintro e w1 ⟨rfl, hb1⟩
      have hP1 := hP.below hb1 hP.lt
      have hB1 := hB.trans (hb1.mono hB.size)
      clear hP hB p0 p1 p2 p3 p4 p5 p6 p7 p8 p9 p10 p11 hb1
      have p0 := (hP1).at 0 _ rfl
      have p1 := (hP1).at 1 _ rfl
      have p2 := (hP1).at 2 _ rfl
      have p3 := (hP1).at 3 _ rfl
      have p4 := (hP1).at 4 _ rfl
      have p5 := (hP1).at 5 _ rfl
      have p6 := (hP1).at 6 _ rfl
      have p7 := (hP1).at 7 _ rfl
      have p8 := (hP1).at 8 _ rfl
      have p9 := (hP1).at 9 _ rfl
      have p10 := (hP1).at 10 _ rfl
      have p11 := (hP1).at 11 _ rfl
      go_wp2_with fail
      go_ret
      exact ⟨rfl, hB1⟩
set_option maxHeartbeats 1000000 in
set_option maxRecDepth 100000 in
theorem cn3_bad (n : Nat) (kd : Int) (A0 : Option Addr) (c0 : Nat) (tx : List ByteArray) (tk mt pt : Int) (A1 : Option Addr) (c1 : Nat) (nm : List ByteArray) (A2 : Option Addr) (c2 : Nat) (ks : List ByteArray) (ov : Bool) (lm : Int) (A3 : Option Addr) (c3 : Nat) (ts : List (TestN n)) (A4 : Option Addr) (c4 : Nat) (th : List (CmdN n)) (A5 : Option Addr) (c5 : Nat) (el : List (CmdN n)) (dp : Int) (w : World) (h1 : ¬ kd < 1) (h10 : ¬ 10 < kd) (hn2 : ¬ kd = 2) (hd : ¬ 6 < dp) (hth : th.length ≤ 1048576) (hel : el.length ≤ 1048576) (hk : kd = 3 ∨ kd = 4 ∨ kd = 10) (ht : ¬ tx.length = 0) : Calls Tryd.prog 111 #[.agg #[.int .i64 kd, .slice A0 tx.length c0, .int .i64 tk, .int .i64 mt, .int .i64 pt, .slice A1 nm.length c1, .slice A2 ks.length c2, .bool ov, .int .i64 lm, .slice A3 ts.length c3, .slice A4 th.length c4, .slice A5 el.length c5], .int .i64 dp] w (fun e w' => e = .returned (.int .i64 3) ∧ Below w.heap.size w w') := by
  have b1 : (kd == 1) = false := by rw [beq_eq_false_iff_ne]; omega
  have b5 : (kd == 5) = false := by rw [beq_eq_false_iff_ne]; omega
  have b6 : (kd == 6) = false := by rw [beq_eq_false_iff_ne]; omega
  have b7 : (kd == 7) = false := by rw [beq_eq_false_iff_ne]; omega
  have b8 : (kd == 8) = false := by rw [beq_eq_false_iff_ne]; omega
  have b9 : (kd == 9) = false := by rw [beq_eq_false_iff_ne]; omega
  have j0 : ((tx.length : Int) == 0) = false := by rw [beq_eq_false_iff_ne]; omega
  have e2 : (kd == 2) = false := by rw [beq_eq_false_iff_ne]; exact hn2
  clear hk ht hn2
  skip
  have hP : Blk (w.alloc (.cells #[.int .i64 kd, .slice A0 tx.length c0, .int .i64 tk, .int .i64 mt, .int .i64 pt, .slice A1 nm.length c1, .slice A2 ks.length c2, .bool ov, .int .i64 lm, .slice A3 ts.length c3, .slice A4 th.length c4, .slice A5 el.length c5] 109)) w.heap.size [.int .i64 kd, .slice A0 tx.length c0, .int .i64 tk, .int .i64 mt, .int .i64 pt, .slice A1 nm.length c1, .slice A2 ks.length c2, .bool ov, .int .i64 lm, .slice A3 ts.length c3, .slice A4 th.length c4, .slice A5 el.length c5] := Blk.made w _ _
  have hB : Below w.heap.size w (w.alloc (.cells #[.int .i64 kd, .slice A0 tx.length c0, .int .i64 tk, .int .i64 mt, .int .i64 pt, .slice A1 nm.length c1, .slice A2 ks.length c2, .bool ov, .int .i64 lm, .slice A3 ts.length c3, .slice A4 th.length c4, .slice A5 el.length c5] 109)) := (by repeat (first | exact Below.refl _ _ | apply below_alloc | apply pw_below_drewN | apply below_drew1 | (refine Below.setCell ?_ (by first | (simp; done) | (simp; omega) | omega) _) ))
  have p0 := (hP).at 0 _ rfl
  have p1 := (hP).at 1 _ rfl
  have p2 := (hP).at 2 _ rfl
  have p3 := (hP).at 3 _ rfl
  have p4 := (hP).at 4 _ rfl
  have p5 := (hP).at 5 _ rfl
  have p6 := (hP).at 6 _ rfl
  have p7 := (hP).at 7 _ rfl
  have p8 := (hP).at 8 _ rfl
  have p9 := (hP).at 9 _ rfl
  have p10 := (hP).at 10 _ rfl
  have p11 := (hP).at 11 _ rfl
  go_enter Tryd.func111, Tryd.ntmps111
  go_wp2_with fail
  go_ret
  exact ⟨rfl, (by repeat (first | exact Below.refl _ _ | apply below_alloc | apply pw_below_drewN | apply below_drew1 | (refine Below.setCell ?_ (by first | (simp; done) | (simp; omega) | omega) _) ))⟩
end Go.Proofs.YtijdghplfhfpaaaDoor.H

/- Scripts: are commands in form? The program's walk, whole. -/
namespace Go.Proofs.YtijdghplfhfpaaaDoor.H
open Go.RowKit Go.Proofs.YtijdghplfhfpaaaDoorW.PrintWords Go.Proofs.YtijdghplfhfpaaaDoorW.PrintLast Go.Proofs.YtijdghplfhfpaaaDoor.U
set_option linter.unusedVariables false
set_option linter.unusedSimpArgs false
theorem elsif_some {n : Nat} {l : List (CmdN n)} (h : l.length = 1) (hk : kindC n (l[0]'(by omega)) = 2) : elsifL (kindC n) l = some (l[0]'(by omega)) := by
  match l, h with
  | [x], _ => exact if_pos hk
theorem elsif_no {n : Nat} {l : List (CmdN n)} (h : l.length = 1) (hk : ¬ kindC n (l[0]'(by omega)) = 2) : elsifL (kindC n) l = none := by
  match l, h with
  | [x], _ => exact if_neg hk
theorem elsif_not {n : Nat} {l : List (CmdN n)} (h : ¬ l.length = 1) : elsifL (kindC n) l = none := by
  match l, h with
  | [], _ => rfl
  | [x], h => exact absurd rfl h
  | _ :: _ :: _, _ => rfl
theorem ite_iff {P Q : Prop} [Decidable P] [Decidable Q] (h : P ↔ Q) (x y : Int) : (if P then x else y) = if Q then x else y := by
  by_cases hq : Q
  · rw [if_pos hq, if_pos (h.mpr hq)]
  · rw [if_neg hq, if_neg (fun hp => hq (h.mp hp))]
theorem formC_ok {τ α : Type} {c : CmdF (TestF τ) α} (hp : if c.kind = 1 ∨ c.kind = 8 ∨ c.kind = 9 then 0 < c.texts.length else if 5 ≤ c.kind ∧ c.kind ≤ 7 then c.texts.length = 1 else c.texts.length = 0) :
    formC c ↔ (decide (bareT c.test) = true ∧ c.then_.length = 0 ∧ c.else_.length = 0) :=
  ⟨fun h => ⟨decide_eq_true h.1, h.2.1, h.2.2.1⟩, fun h => ⟨of_decide_eq_true h.1, h.2.1, h.2.2, hp⟩⟩
theorem formC_bad {τ α : Type} {c : CmdF (TestF τ) α} (hp : ¬ if c.kind = 1 ∨ c.kind = 8 ∨ c.kind = 9 then 0 < c.texts.length else if 5 ≤ c.kind ∧ c.kind ≤ 7 then c.texts.length = 1 else c.texts.length = 0) : ¬ formC c :=
  fun h => hp h.2.2.2
theorem check_step (n : Nat) (IHC : ChC n) (IHL : ChL n) : ChC (n + 1) := by
  intro c cs dp w hK hw h0 h10
  obtain ⟨A0, c0, tcs, A4, c4, A5, c5, rfl, hlen, hr0, hKt, hr4, hr5⟩ := cmd_K hK
  obtain ⟨A1, c1, A2, c2, A3, c3, rfl, _⟩ := test_K hKt
  obtain ⟨kd, tx, ⟨tk, mt, pt, nm, ks, ov, lm, ts⟩, th, el⟩ := c
  simp only at hr0 hKt hr4 hr5
  have hw' : 1 + tx.length + (1 + nm.length + ks.length + (ts.map (wtT n)).sum) + (th.map (wtC n)).sum + (el.map (wtC n)).sum ≤ 1048576 := hw
  have s1 := sum_len (wtT n) (wtT_pos n) ts
  have s2 := sum_len (wtC n) (wtC_pos n) th
  have s3 := sum_len (wtC n) (wtC_pos n) el
  show Calls _ _ _ w fun e w' => e = .returned (.int .i64 (chkC (checkT (n + 1)) (kindC n) (checkC n) ⟨kd, tx, ⟨tk, mt, pt, nm, ks, ov, lm, ts⟩, th, el⟩ dp)) ∧ Below w.heap.size w w'
  unfold chkC
  simp only
  by_cases hk : kd < 1 ∨ 10 < kd
  · rw [if_pos hk]
    exact cc_kind n kd A0 c0 tx tk mt pt A1 c1 nm A2 c2 ks ov lm A3 c3 ts A4 c4 th A5 c5 el dp w hk
  · rw [if_neg hk]
    by_cases hd : 6 < dp
    · rw [if_pos hd]
      exact cc_deep n kd A0 c0 tx tk mt pt A1 c1 nm A2 c2 ks ov lm A3 c3 ts A4 c4 th A5 c5 el dp w (by omega) (by omega) hd
    · rw [if_neg hd]
      by_cases h2 : kd = 2
      · rw [if_pos h2]
        by_cases ht : 0 < tx.length
        · rw [if_pos ht]
          exact cc_texts n kd A0 c0 tx tk mt pt A1 c1 nm A2 c2 ks ov lm A3 c3 ts A4 c4 th A5 c5 el dp w h2 hd ht
        · rw [if_neg ht]
          have HT := fun w' (hb : Below w.heap.size w w') => checkTest_calls (n + 1) ⟨tk, mt, pt, nm, ks, ov, lm, ts⟩ [.int .i64 tk, .int .i64 mt, .int .i64 pt, .slice A1 nm.length c1, .slice A2 ks.length c2, .bool ov, .int .i64 lm, .slice A3 ts.length c3] 1 w' ((kTestF (kTest n)).K_below hb hKt) (by decide) (by decide)
          have HH := fun w' (hb : Below w.heap.size w w') => IHL A4 c4 th (dp + 1) w' (Kd.C_below hr4 hb) (by omega) (by omega) (by omega)
          have HE := fun w' (hb : Below w.heap.size w w') => IHL A5 c5 el (dp + 1) w' (Kd.C_below hr5 hb) (by omega) (by omega) (by omega)
          by_cases v1 : checkT (n + 1) ⟨tk, mt, pt, nm, ks, ov, lm, ts⟩ 1 = 0
          · rw [if_pos v1]
            by_cases v2 : errs (fun x => checkC n x (dp + 1)) th = 0
            · rw [if_pos v2]
              by_cases he : el.length = 1
              · by_cases hk2 : kindC n (el[0]'(by omega)) = 2
                · rw [elsif_some he hk2]
                  exact cc_c n kd A0 c0 tx tk mt pt A1 c1 nm A2 c2 ks ov lm A3 c3 ts A4 c4 th A5 c5 el dp w _ hr5 h2 h0 hd (by omega) he hk2 _ _ v1 v2 HT HH
                    (fun cs w' hK' hb => IHC _ cs dp w' ((kCmd n).K_below hb hK') (Nat.le_trans (sum_mem (wtC n) el 0 (by omega)) (by omega)) h0 h10)
                · rw [elsif_no he hk2]
                  exact cc_e1 n kd A0 c0 tx tk mt pt A1 c1 nm A2 c2 ks ov lm A3 c3 ts A4 c4 th A5 c5 el dp w _ hr5 h2 h0 hd (by omega) he hk2 _ _ v1 v2 HT HH HE
              · rw [elsif_not he]
                exact cc_e n kd A0 c0 tx tk mt pt A1 c1 nm A2 c2 ks ov lm A3 c3 ts A4 c4 th A5 c5 el dp w _ h2 h0 hd (by omega) he _ _ v1 v2 HT HH HE
            · rw [if_neg v2]
              exact cc_h n kd A0 c0 tx tk mt pt A1 c1 nm A2 c2 ks ov lm A3 c3 ts A4 c4 th A5 c5 el dp w _ h2 h0 hd (by omega) v2 _ v1 HT HH
          · rw [if_neg v1]
            exact cc_t n kd A0 c0 tx tk mt pt A1 c1 nm A2 c2 ks ov lm A3 c3 ts A4 c4 th A5 c5 el dp w _ h2 h0 hd (by omega) v1 HT
      · rw [if_neg h2]
        have HB := fun w' (_ : Below w.heap.size w w') => bare_calls A1 c1 A2 c2 A3 c3 tk mt pt nm ks ov lm ts w' (by omega) (by omega) (by omega)
        rcases (by omega : kd = 1 ∨ kd = 8 ∨ kd = 9 ∨ kd = 5 ∨ kd = 6 ∨ kd = 7 ∨ (kd = 3 ∨ kd = 4 ∨ kd = 10)) with h | h | h | h | h | h | h
        · by_cases hp : 0 < tx.length
          · rw [ite_iff (formC_ok (c := ⟨kd, tx, ⟨tk, mt, pt, nm, ks, ov, lm, ts⟩, th, el⟩) (by simp only; rw [if_pos (show kd = 1 ∨ kd = 8 ∨ kd = 9 by omega)]; exact hp))]
            exact cn1_ok n kd A0 c0 tx tk mt pt A1 c1 nm A2 c2 ks ov lm A3 c3 ts A4 c4 th A5 c5 el dp w (by omega) (by omega) h2 hd (by omega) (by omega) h hp _ HB
          · rw [if_neg (formC_bad (c := ⟨kd, tx, ⟨tk, mt, pt, nm, ks, ov, lm, ts⟩, th, el⟩) (by simp only; rw [if_pos (show kd = 1 ∨ kd = 8 ∨ kd = 9 by omega)]; exact hp))]
            exact cn1_bad n kd A0 c0 tx tk mt pt A1 c1 nm A2 c2 ks ov lm A3 c3 ts A4 c4 th A5 c5 el dp w (by omega) (by omega) h2 hd (by omega) (by omega) h hp
        · by_cases hp : 0 < tx.length
          · rw [ite_iff (formC_ok (c := ⟨kd, tx, ⟨tk, mt, pt, nm, ks, ov, lm, ts⟩, th, el⟩) (by simp only; rw [if_pos (show kd = 1 ∨ kd = 8 ∨ kd = 9 by omega)]; exact hp))]
            exact cn8_ok n kd A0 c0 tx tk mt pt A1 c1 nm A2 c2 ks ov lm A3 c3 ts A4 c4 th A5 c5 el dp w (by omega) (by omega) h2 hd (by omega) (by omega) h hp _ HB
          · rw [if_neg (formC_bad (c := ⟨kd, tx, ⟨tk, mt, pt, nm, ks, ov, lm, ts⟩, th, el⟩) (by simp only; rw [if_pos (show kd = 1 ∨ kd = 8 ∨ kd = 9 by omega)]; exact hp))]
            exact cn8_bad n kd A0 c0 tx tk mt pt A1 c1 nm A2 c2 ks ov lm A3 c3 ts A4 c4 th A5 c5 el dp w (by omega) (by omega) h2 hd (by omega) (by omega) h hp
        · by_cases hp : 0 < tx.length
          · rw [ite_iff (formC_ok (c := ⟨kd, tx, ⟨tk, mt, pt, nm, ks, ov, lm, ts⟩, th, el⟩) (by simp only; rw [if_pos (show kd = 1 ∨ kd = 8 ∨ kd = 9 by omega)]; exact hp))]
            exact cn9_ok n kd A0 c0 tx tk mt pt A1 c1 nm A2 c2 ks ov lm A3 c3 ts A4 c4 th A5 c5 el dp w (by omega) (by omega) h2 hd (by omega) (by omega) h hp _ HB
          · rw [if_neg (formC_bad (c := ⟨kd, tx, ⟨tk, mt, pt, nm, ks, ov, lm, ts⟩, th, el⟩) (by simp only; rw [if_pos (show kd = 1 ∨ kd = 8 ∨ kd = 9 by omega)]; exact hp))]
            exact cn9_bad n kd A0 c0 tx tk mt pt A1 c1 nm A2 c2 ks ov lm A3 c3 ts A4 c4 th A5 c5 el dp w (by omega) (by omega) h2 hd (by omega) (by omega) h hp
        · by_cases hp : tx.length = 1
          · rw [ite_iff (formC_ok (c := ⟨kd, tx, ⟨tk, mt, pt, nm, ks, ov, lm, ts⟩, th, el⟩) (by simp only; rw [if_neg (show ¬ (kd = 1 ∨ kd = 8 ∨ kd = 9) by omega), if_pos (show 5 ≤ kd ∧ kd ≤ 7 by omega)]; exact hp))]
            exact cn5_ok n kd A0 c0 tx tk mt pt A1 c1 nm A2 c2 ks ov lm A3 c3 ts A4 c4 th A5 c5 el dp w (by omega) (by omega) h2 hd (by omega) (by omega) h hp _ HB
          · rw [if_neg (formC_bad (c := ⟨kd, tx, ⟨tk, mt, pt, nm, ks, ov, lm, ts⟩, th, el⟩) (by simp only; rw [if_neg (show ¬ (kd = 1 ∨ kd = 8 ∨ kd = 9) by omega), if_pos (show 5 ≤ kd ∧ kd ≤ 7 by omega)]; exact hp))]
            exact cn5_bad n kd A0 c0 tx tk mt pt A1 c1 nm A2 c2 ks ov lm A3 c3 ts A4 c4 th A5 c5 el dp w (by omega) (by omega) h2 hd (by omega) (by omega) h hp
        · by_cases hp : tx.length = 1
          · rw [ite_iff (formC_ok (c := ⟨kd, tx, ⟨tk, mt, pt, nm, ks, ov, lm, ts⟩, th, el⟩) (by simp only; rw [if_neg (show ¬ (kd = 1 ∨ kd = 8 ∨ kd = 9) by omega), if_pos (show 5 ≤ kd ∧ kd ≤ 7 by omega)]; exact hp))]
            exact cn6_ok n kd A0 c0 tx tk mt pt A1 c1 nm A2 c2 ks ov lm A3 c3 ts A4 c4 th A5 c5 el dp w (by omega) (by omega) h2 hd (by omega) (by omega) h hp _ HB
          · rw [if_neg (formC_bad (c := ⟨kd, tx, ⟨tk, mt, pt, nm, ks, ov, lm, ts⟩, th, el⟩) (by simp only; rw [if_neg (show ¬ (kd = 1 ∨ kd = 8 ∨ kd = 9) by omega), if_pos (show 5 ≤ kd ∧ kd ≤ 7 by omega)]; exact hp))]
            exact cn6_bad n kd A0 c0 tx tk mt pt A1 c1 nm A2 c2 ks ov lm A3 c3 ts A4 c4 th A5 c5 el dp w (by omega) (by omega) h2 hd (by omega) (by omega) h hp
        · by_cases hp : tx.length = 1
          · rw [ite_iff (formC_ok (c := ⟨kd, tx, ⟨tk, mt, pt, nm, ks, ov, lm, ts⟩, th, el⟩) (by simp only; rw [if_neg (show ¬ (kd = 1 ∨ kd = 8 ∨ kd = 9) by omega), if_pos (show 5 ≤ kd ∧ kd ≤ 7 by omega)]; exact hp))]
            exact cn7_ok n kd A0 c0 tx tk mt pt A1 c1 nm A2 c2 ks ov lm A3 c3 ts A4 c4 th A5 c5 el dp w (by omega) (by omega) h2 hd (by omega) (by omega) h hp _ HB
          · rw [if_neg (formC_bad (c := ⟨kd, tx, ⟨tk, mt, pt, nm, ks, ov, lm, ts⟩, th, el⟩) (by simp only; rw [if_neg (show ¬ (kd = 1 ∨ kd = 8 ∨ kd = 9) by omega), if_pos (show 5 ≤ kd ∧ kd ≤ 7 by omega)]; exact hp))]
            exact cn7_bad n kd A0 c0 tx tk mt pt A1 c1 nm A2 c2 ks ov lm A3 c3 ts A4 c4 th A5 c5 el dp w (by omega) (by omega) h2 hd (by omega) (by omega) h hp
        · by_cases hp : tx.length = 0
          · rw [ite_iff (formC_ok (c := ⟨kd, tx, ⟨tk, mt, pt, nm, ks, ov, lm, ts⟩, th, el⟩) (by simp only; rw [if_neg (show ¬ (kd = 1 ∨ kd = 8 ∨ kd = 9) by omega), if_neg (show ¬ (5 ≤ kd ∧ kd ≤ 7) by omega)]; exact hp))]
            exact cn3_ok n kd A0 c0 tx tk mt pt A1 c1 nm A2 c2 ks ov lm A3 c3 ts A4 c4 th A5 c5 el dp w (by omega) (by omega) h2 hd (by omega) (by omega) h hp _ HB
          · rw [if_neg (formC_bad (c := ⟨kd, tx, ⟨tk, mt, pt, nm, ks, ov, lm, ts⟩, th, el⟩) (by simp only; rw [if_neg (show ¬ (kd = 1 ∨ kd = 8 ∨ kd = 9) by omega), if_neg (show ¬ (5 ≤ kd ∧ kd ≤ 7) by omega)]; exact hp))]
            exact cn3_bad n kd A0 c0 tx tk mt pt A1 c1 nm A2 c2 ks ov lm A3 c3 ts A4 c4 th A5 c5 el dp w (by omega) (by omega) h2 hd (by omega) (by omega) h hp
theorem check_calls2 : ∀ n, ChC n
  | 0 => fun x => nomatch x
  | n + 1 => check_step n (check_calls2 n) (checkAll_of n (check_calls2 n))
theorem checkAll_calls (n : Nat) : ChL n := checkAll_of n (check_calls2 n)
end Go.Proofs.YtijdghplfhfpaaaDoor.H

/- Scripts: the writer's commands: the contracts; a block. -/
namespace Go.Proofs.YtijdghplfhfpaaaDoor.H
open Go.RowKit Go.Proofs.YtijdghplfhfpaaaDoorW.PrintWords Go.Proofs.YtijdghplfhfpaaaDoorW.PrintLast Go.Proofs.YtijdghplfhfpaaaDoor.U
set_option linter.unusedVariables false
set_option linter.unusedSimpArgs false
def WtC (n : Nat) : Prop := ∀ (x : CmdN n) (cs : List Value) (dp : Int) (b : Nat) (l0 : List AToken) (w : World), UndK (kCmd n) w b x cs → checkC n x dp = 0 → Tabs w b → WrAt w b l0 → l0.length + 8 * wtC n x ≤ 1073741824 →
  Calls Tryd.prog 72 #[.pointer (some ⟨b, 0, none⟩), .agg cs.toArray] w fun e w' => e = .returned (.tuple #[]) ∧ WrAt w' b (l0 ++ showC n x) ∧ Wrote b w w'
def WtB (n : Nat) : Prop := ∀ (x : CmdN n) (cs : List Value) (dp : Int) (b : Nat) (l0 : List AToken) (w : World), UndK (kCmd n) w b x cs → checkC n x dp = 0 → kindC n x = 2 → Tabs w b → WrAt w b l0 → l0.length + 8 * wtC n x ≤ 1073741825 →
  Calls Tryd.prog 113 #[.pointer (some ⟨b, 0, none⟩), .agg cs.toArray] w fun e w' => e = .returned (.tuple #[]) ∧ WrAt w' b (l0 ++ restC n x) ∧ Wrote b w w'
def WtL (n : Nat) : Prop := ∀ (A : Option Addr) (c : Nat) (l : List (CmdN n)) (dp : Int) (b : Nat) (l0 : List AToken) (w : World), Und (kCmd n) w b A l → errs (fun x => checkC n x dp) l = 0 → Tabs w b → WrAt w b l0 → l0.length + 8 * (l.map (wtC n)).sum + 2 ≤ 1073741824 →
  Calls Tryd.prog 162 #[.pointer (some ⟨b, 0, none⟩), .slice A l.length c] w fun e w' => e = .returned (.tuple #[]) ∧ WrAt w' b (l0 ++ (tk 5 (⟨#[123]⟩ : ByteArray) :: (l.flatMap (showC n) ++ [tk 5 (⟨#[125]⟩ : ByteArray)]))) ∧ Wrote b w w'
set_option maxHeartbeats 2000000 in
set_option maxRecDepth 100000 in
theorem block_of (n : Nat) (IH : WtC n) : WtL n := by
  intro A c l dp b l0 w r3 hc hT hW hlim
  have h63 := r3.now.2.1
  have hbl := hW.lt
  have hst := Lib.hid (sum_take (wtC n) l)
  have hhl := Lib.hid (fun k => flat_len (showC n) (wtC n) (showC_len n) (l.take k))
  have hhf := Lib.hid (flat_len (showC n) (wtC n) (showC_len n) l)
  have HP := Lib.hid (fun l k s w h hl => put_calls b l k s w h hl)
  replace hc := Lib.hid (fun k hk => errs_all hc k hk)
  replace IH := Lib.hid IH
  replace r3 := Lib.hid r3
  replace hT := Lib.hid hT
  replace hW := Lib.hid hW
  replace hlim := Lib.hid hlim
  go_enter Tryd.func162, Tryd.ntmps162
  go_wp2_with fail
  refine (HP.out _ 5 (⟨#[123]⟩ : ByteArray) _ hW.out (by have := hlim.out; (try simp only [List.length_append, List.length_cons, List.length_nil]); omega)).mono ?_
  rintro e w1 ⟨rfl, hW1, hR1⟩
  clear hW
  replace hW1 := Lib.hid hW1
  go_wp2_with fail
  go_loopw [10] (fun i wr => ∃ k : Nat, k ≤ l.length ∧ i = .int .i64 k ∧ WrAt wr b (l0 ++ (tk 5 (⟨#[123]⟩ : ByteArray) :: (l.take k).flatMap (showC n))) ∧ Wrote b w wr) (fun i _ => l.length - (intOf i).toNat)
  case atStart => exact ⟨0, Nat.zero_le _, rfl, by simpa using hW1.out, hR1⟩
  case round =>
    clear hW1 hR1
    obtain ⟨k, hk, rfl, hW, hR⟩ := hrel
    have hbw := hW.lt
    by_cases hlt : k < l.length
    · obtain ⟨ad, cx, e1', hKx, hxx⟩ := r3.out.elem (kCmd_sz n) k hlt
      obtain ⟨X1, l1, C1, x2, x3, x4, X5, l5, C5, X6, l6, C6, x7, x8, X9, l9, C9, X10, l10, C10, X11, l11, C11, rfl⟩ := cmdN_K hKx.now
      subst e1'
      obtain ⟨hx0, hxj⟩ := hxx wr hR.1
      have q0 := hx0 _ rfl; have q1 := hxj 1 _ (by decide) rfl; have q2 := hxj 2 _ (by decide) rfl; have q3 := hxj 3 _ (by decide) rfl; have q4 := hxj 4 _ (by decide) rfl; have q5 := hxj 5 _ (by decide) rfl; have q6 := hxj 6 _ (by decide) rfl; have q7 := hxj 7 _ (by decide) rfl; have q8 := hxj 8 _ (by decide) rfl; have q9 := hxj 9 _ (by decide) rfl; have q10 := hxj 10 _ (by decide) rfl; have q11 := hxj 11 _ (by decide) rfl
      clear hx0 hxj hxx
      have hts := List.take_succ_eq_append_getElem hlt
      have HX := Lib.hid (fun l0 W (h : Below b w W) hT hW hl => IH.out (l[k]'hlt) _ dp b l0 W (hKx.step h) (hc.out k hlt) hT hW hl)
      have hsum : ((l.take k).map (wtC n)).sum + wtC n l[k] ≤ (l.map (wtC n)).sum := hst.out k hlt
      have hlen := hhl.out k
      have hsn : (l.take (k + 1)).flatMap (showC n) = (l.take k).flatMap (showC n) ++ showC n l[k] := by rw [hts, List.flatMap_append]; simp only [List.flatMap_cons, List.flatMap_nil, List.append_nil]
      have hlim2 := Lib.hid (show ((l.take k).flatMap (showC n)).length + 8 * wtC n l[k] ≤ 8 * (l.map (wtC n)).sum by omega)
      replace hsn := Lib.hid hsn
      clear hts hsum hlen hKx
      generalize kindC n l[k] = x0 at *
      generalize showC n l[k] = Sx at *
      generalize wtC n l[k] = wt at *
      generalize (l.take k).flatMap (showC n) = H at *
      have i0' : (0 : Int) ≤ (k : Int) := by omega
      have i1' : (k : Int) < (l.length : Int) := by omega
      have hO := Blk.made wr #[.int .i64 x0, .slice X1 l1 C1, .int .i64 x2, .int .i64 x3, .int .i64 x4, .slice X5 l5 C5, .slice X6 l6 C6, .bool x7, .int .i64 x8, .slice X9 l9 C9, .slice X10 l10 C10, .slice X11 l11 C11] 109
      have o0 := hO.at 0 _ rfl
      have o1 := hO.at 1 _ rfl
      have o2 := hO.at 2 _ rfl
      have o3 := hO.at 3 _ rfl
      have o4 := hO.at 4 _ rfl
      have o5 := hO.at 5 _ rfl
      have o6 := hO.at 6 _ rfl
      have o7 := hO.at 7 _ rfl
      have o8 := hO.at 8 _ rfl
      have o9 := hO.at 9 _ rfl
      have o10 := hO.at 10 _ rfl
      have o11 := hO.at 11 _ rfl
      have hW2 := hW.below ((Below.refl _ _).alloc (Nat.le_refl _) (.cells #[.int .i64 x0, .slice X1 l1 C1, .int .i64 x2, .int .i64 x3, .int .i64 x4, .slice X5 l5 C5, .slice X6 l6 C6, .bool x7, .int .i64 x8, .slice X9 l9 C9, .slice X10 l10 C10, .slice X11 l11 C11] 109))
      have hR2 := hR.alloc (Nat.le_of_lt hbw) (.cells #[.int .i64 x0, .slice X1 l1 C1, .int .i64 x2, .int .i64 x3, .int .i64 x4, .slice X5 l5 C5, .slice X6 l6 C6, .bool x7, .int .i64 x8, .slice X9 l9 C9, .slice X10 l10 C10, .slice X11 l11 C11] 109)
      replace hW2 := Lib.hid hW2
      clear hW hR
      go_wp2_with fail
      refine (HX.out _ _ hR2.1 (hT.out.step hR2.1) hW2.out (by have := hlim.out; have := hlim2.out; simp only [List.length_append, List.length_cons]; omega)).mono ?_
      rintro e w4 ⟨rfl, hW4, hR4⟩
      replace hW4 := Lib.hid hW4
      go_wp2_with fail
      go_roundw
      case rel => exact ⟨k + 1, hlt, by go_num, by rw [hsn.out]; simpa using hW4.out, hR2.trans hR4⟩
      case measure => simp [intOf]; omega
    · obtain rfl : k = l.length := by omega
      rw [List.take_length] at hW
      have i1' : ¬ (l.length : Int) < (l.length : Int) := by omega
      have HQ := Lib.hid (HP.out _ 5 (⟨#[125]⟩ : ByteArray) wr hW (by have := hlim.out; have := hhf.out; simp only [List.length_append, List.length_cons]; omega))
      clear hW
      go_wp2_with fail
      refine HQ.out.mono ?_
      rintro e w2 ⟨rfl, hW2, hR2⟩
      replace hW2 := Lib.hid hW2
      go_wp2_with fail
      go_end0
      exact ⟨rfl, by simpa using hW2.out, hR.trans hR2⟩
end Go.Proofs.YtijdghplfhfpaaaDoor.H

/- Scripts: the writer's commands. -/
namespace Go.Proofs.YtijdghplfhfpaaaDoor.H
open Go.RowKit Go.Proofs.YtijdghplfhfpaaaDoorW.PrintWords Go.Proofs.YtijdghplfhfpaaaDoorW.PrintLast Go.Proofs.YtijdghplfhfpaaaDoor.U
set_option linter.unusedVariables false
set_option linter.unusedSimpArgs false
set_option maxHeartbeats 1000000 in
set_option maxRecDepth 100000 in
theorem wc_one (n : Nat) (kd : Int) (A0 : Option Addr) (c0 : Nat) (tx : List ByteArray) (tk' mt pt : Int) (A1 : Option Addr) (c1 : Nat) (nm : List ByteArray) (A2 : Option Addr) (c2 : Nat) (ks : List ByteArray) (ov : Bool) (lm : Int) (A3 : Option Addr) (c3 : Nat) (ts : List (TestN n)) (A4 : Option Addr) (c4 : Nat) (th : List (CmdN n)) (A5 : Option Addr) (c5 : Nat) (el : List (CmdN n)) (b : Nat) (l0 : List AToken) (w : World) (hW : WrAt w b l0) (hT : Tabs w b) (k1 : 1 ≤ kd) (k2 : kd ≤ 10) (hn2 : ¬ kd = 2) (r0 : Und Kd.string w b A0 tx) (hlim : l0.length + 8 * (1 + tx.length) ≤ 1073741824) :
    Calls Tryd.prog 72 #[.pointer (some ⟨b, 0, none⟩), .agg #[.int .i64 kd, .slice A0 tx.length c0, .int .i64 tk', .int .i64 mt, .int .i64 pt, .slice A1 nm.length c1, .slice A2 ks.length c2, .bool ov, .int .i64 lm, .slice A3 ts.length c3, .slice A4 th.length c4, .slice A5 el.length c5]] w fun e w' => e = .returned (.tuple #[]) ∧ WrAt w' b (l0 ++ (tk 1 (wordAt commandWords kd) :: ((if 0 < tx.length then strsV tx else []) ++ [tk 5 (⟨#[59]⟩ : ByteArray)]))) ∧ Wrote b w w' := by
  have b2 : (kd == 2) = false := by rw [beq_eq_false_iff_ne]; exact hn2
  have HL := Lib.hid (fun l0 A c l w h hr h0 hl => wlist_calls b l0 A c l w h hr h0 hl)
  replace r0 := Lib.hid r0
  clear hn2
  by_cases h0 : 0 < tx.length
  · rw [if_pos h0]
    have j0 : (0 : Int) < (tx.length : Int) := by omega
    skip
    obtain ⟨k, hkd⟩ : ∃ k : Nat, kd = (k : Int) := ⟨kd.toNat, by omega⟩
    have hwd := word_at (hT.2.2.2.step (show Below b w (w.alloc (.cells #[.int .i64 kd, .slice A0 tx.length c0, .int .i64 tk', .int .i64 mt, .int .i64 pt, .slice A1 nm.length c1, .slice A2 ks.length c2, .bool ov, .int .i64 lm, .slice A3 ts.length c3, .slice A4 th.length c4, .slice A5 el.length c5] 109)) from (Below.refl _ _).alloc (Nat.le_of_lt hW.lt) _)) k (by show k < 11; omega)
    rw [← hkd] at hwd
    have i0 : 0 ≤ kd := by omega
    have i1 : kd < 11 := by omega
    have hkn : kd.toNat = k := by omega
    replace hT := Lib.hid hT
    clear hkd k1 k2
    have hbl := hW.lt
    have hP : BlkT (w.alloc (.cells #[.int .i64 kd, .slice A0 tx.length c0, .int .i64 tk', .int .i64 mt, .int .i64 pt, .slice A1 nm.length c1, .slice A2 ks.length c2, .bool ov, .int .i64 lm, .slice A3 ts.length c3, .slice A4 th.length c4, .slice A5 el.length c5] 109)) w.heap.size 109 [.int .i64 kd, .slice A0 tx.length c0, .int .i64 tk', .int .i64 mt, .int .i64 pt, .slice A1 nm.length c1, .slice A2 ks.length c2, .bool ov, .int .i64 lm, .slice A3 ts.length c3, .slice A4 th.length c4, .slice A5 el.length c5] := BlkT.made w _ _
    have hR : Wrote b w (w.alloc (.cells #[.int .i64 kd, .slice A0 tx.length c0, .int .i64 tk', .int .i64 mt, .int .i64 pt, .slice A1 nm.length c1, .slice A2 ks.length c2, .bool ov, .int .i64 lm, .slice A3 ts.length c3, .slice A4 th.length c4, .slice A5 el.length c5] 109)) := (Wrote.refl b w).alloc (Nat.le_of_lt hbl) _
    have HP := Lib.hid (fun l k s w h hl => put_calls b l k s w h hl)
    replace hW := Lib.hid (hW.below ((Below.refl _ _).alloc (Nat.le_refl _) (.cells #[.int .i64 kd, .slice A0 tx.length c0, .int .i64 tk', .int .i64 mt, .int .i64 pt, .slice A1 nm.length c1, .slice A2 ks.length c2, .bool ov, .int .i64 lm, .slice A3 ts.length c3, .slice A4 th.length c4, .slice A5 el.length c5] 109)))
    have p0 := hP.1.at 0 _ rfl
    have p1 := hP.1.at 1 _ rfl
    have p2 := hP.1.at 2 _ rfl
    have p3 := hP.1.at 3 _ rfl
    have p4 := hP.1.at 4 _ rfl
    have p5 := hP.1.at 5 _ rfl
    have p6 := hP.1.at 6 _ rfl
    have p7 := hP.1.at 7 _ rfl
    have p8 := hP.1.at 8 _ rfl
    have p9 := hP.1.at 9 _ rfl
    have p10 := hP.1.at 10 _ rfl
    have p11 := hP.1.at 11 _ rfl
    replace hlim := Lib.hid hlim
    generalize wordAt commandWords kd = word at *
    go_enter Tryd.func72, Tryd.ntmps72
    go_wp2_with fail
    refine (HP.out _ 1 word _ hW.out (by have := hlim.out; (try simp only [List.length_append, List.length_cons, List.length_nil]); omega)).mono ?_
    rintro e w1 ⟨rfl, hWn, hRn⟩
    clear p0 p1 p2 p3 p4 p5 p6 p7 p8 p9 p10 p11
    replace hP := hRn.2.2 _ _ _ (by omega) (by decide) hP
    replace hR := hR.trans hRn
    replace hW := Lib.hid hWn
    clear hRn hWn
    have p0 := hP.1.at 0 _ rfl
    have p1 := hP.1.at 1 _ rfl
    have p2 := hP.1.at 2 _ rfl
    have p3 := hP.1.at 3 _ rfl
    have p4 := hP.1.at 4 _ rfl
    have p5 := hP.1.at 5 _ rfl
    have p6 := hP.1.at 6 _ rfl
    have p7 := hP.1.at 7 _ rfl
    have p8 := hP.1.at 8 _ rfl
    have p9 := hP.1.at 9 _ rfl
    have p10 := hP.1.at 10 _ rfl
    have p11 := hP.1.at 11 _ rfl
    go_wp2_with fail
    refine (HL.out _ A0 c0 tx _ hW.out (r0.out.step hR.1) h0 (by have := hlim.out; (try simp only [List.length_append, List.length_cons, List.length_nil]); omega)).mono ?_
    rintro e w2 ⟨rfl, hWn, hRn⟩
    clear p0 p1 p2 p3 p4 p5 p6 p7 p8 p9 p10 p11
    replace hP := hRn.2.2 _ _ _ (by omega) (by decide) hP
    replace hR := hR.trans hRn
    replace hW := Lib.hid hWn
    clear hRn hWn
    have p0 := hP.1.at 0 _ rfl
    have p1 := hP.1.at 1 _ rfl
    have p2 := hP.1.at 2 _ rfl
    have p3 := hP.1.at 3 _ rfl
    have p4 := hP.1.at 4 _ rfl
    have p5 := hP.1.at 5 _ rfl
    have p6 := hP.1.at 6 _ rfl
    have p7 := hP.1.at 7 _ rfl
    have p8 := hP.1.at 8 _ rfl
    have p9 := hP.1.at 9 _ rfl
    have p10 := hP.1.at 10 _ rfl
    have p11 := hP.1.at 11 _ rfl
    go_wp2_with fail
    refine (HP.out _ 5 (⟨#[59]⟩ : ByteArray) _ hW.out (by have := hlim.out; have := strs_len h0; simp only [List.length_append, List.length_cons, List.length_nil]; omega)).mono ?_
    rintro e w3 ⟨rfl, hWn, hRn⟩
    clear p0 p1 p2 p3 p4 p5 p6 p7 p8 p9 p10 p11
    replace hP := hRn.2.2 _ _ _ (by omega) (by decide) hP
    replace hR := hR.trans hRn
    replace hW := Lib.hid hWn
    clear hRn hWn
    have p0 := hP.1.at 0 _ rfl
    have p1 := hP.1.at 1 _ rfl
    have p2 := hP.1.at 2 _ rfl
    have p3 := hP.1.at 3 _ rfl
    have p4 := hP.1.at 4 _ rfl
    have p5 := hP.1.at 5 _ rfl
    have p6 := hP.1.at 6 _ rfl
    have p7 := hP.1.at 7 _ rfl
    have p8 := hP.1.at 8 _ rfl
    have p9 := hP.1.at 9 _ rfl
    have p10 := hP.1.at 10 _ rfl
    have p11 := hP.1.at 11 _ rfl
    go_wp2_with fail
    go_end0
    exact ⟨rfl, by simpa using hW.out, hR⟩
  · rw [if_neg h0]
    have j0 : ¬ (0 : Int) < (tx.length : Int) := by omega
    skip
    obtain ⟨k, hkd⟩ : ∃ k : Nat, kd = (k : Int) := ⟨kd.toNat, by omega⟩
    have hwd := word_at (hT.2.2.2.step (show Below b w (w.alloc (.cells #[.int .i64 kd, .slice A0 tx.length c0, .int .i64 tk', .int .i64 mt, .int .i64 pt, .slice A1 nm.length c1, .slice A2 ks.length c2, .bool ov, .int .i64 lm, .slice A3 ts.length c3, .slice A4 th.length c4, .slice A5 el.length c5] 109)) from (Below.refl _ _).alloc (Nat.le_of_lt hW.lt) _)) k (by show k < 11; omega)
    rw [← hkd] at hwd
    have i0 : 0 ≤ kd := by omega
    have i1 : kd < 11 := by omega
    have hkn : kd.toNat = k := by omega
    replace hT := Lib.hid hT
    clear hkd k1 k2
    have hbl := hW.lt
    have hP : BlkT (w.alloc (.cells #[.int .i64 kd, .slice A0 tx.length c0, .int .i64 tk', .int .i64 mt, .int .i64 pt, .slice A1 nm.length c1, .slice A2 ks.length c2, .bool ov, .int .i64 lm, .slice A3 ts.length c3, .slice A4 th.length c4, .slice A5 el.length c5] 109)) w.heap.size 109 [.int .i64 kd, .slice A0 tx.length c0, .int .i64 tk', .int .i64 mt, .int .i64 pt, .slice A1 nm.length c1, .slice A2 ks.length c2, .bool ov, .int .i64 lm, .slice A3 ts.length c3, .slice A4 th.length c4, .slice A5 el.length c5] := BlkT.made w _ _
    have hR : Wrote b w (w.alloc (.cells #[.int .i64 kd, .slice A0 tx.length c0, .int .i64 tk', .int .i64 mt, .int .i64 pt, .slice A1 nm.length c1, .slice A2 ks.length c2, .bool ov, .int .i64 lm, .slice A3 ts.length c3, .slice A4 th.length c4, .slice A5 el.length c5] 109)) := (Wrote.refl b w).alloc (Nat.le_of_lt hbl) _
    have HP := Lib.hid (fun l k s w h hl => put_calls b l k s w h hl)
    replace hW := Lib.hid (hW.below ((Below.refl _ _).alloc (Nat.le_refl _) (.cells #[.int .i64 kd, .slice A0 tx.length c0, .int .i64 tk', .int .i64 mt, .int .i64 pt, .slice A1 nm.length c1, .slice A2 ks.length c2, .bool ov, .int .i64 lm, .slice A3 ts.length c3, .slice A4 th.length c4, .slice A5 el.length c5] 109)))
    have p0 := hP.1.at 0 _ rfl
    have p1 := hP.1.at 1 _ rfl
    have p2 := hP.1.at 2 _ rfl
    have p3 := hP.1.at 3 _ rfl
    have p4 := hP.1.at 4 _ rfl
    have p5 := hP.1.at 5 _ rfl
    have p6 := hP.1.at 6 _ rfl
    have p7 := hP.1.at 7 _ rfl
    have p8 := hP.1.at 8 _ rfl
    have p9 := hP.1.at 9 _ rfl
    have p10 := hP.1.at 10 _ rfl
    have p11 := hP.1.at 11 _ rfl
    replace hlim := Lib.hid hlim
    generalize wordAt commandWords kd = word at *
    go_enter Tryd.func72, Tryd.ntmps72
    go_wp2_with fail
    refine (HP.out _ 1 word _ hW.out (by have := hlim.out; (try simp only [List.length_append, List.length_cons, List.length_nil]); omega)).mono ?_
    rintro e w1 ⟨rfl, hWn, hRn⟩
    clear p0 p1 p2 p3 p4 p5 p6 p7 p8 p9 p10 p11
    replace hP := hRn.2.2 _ _ _ (by omega) (by decide) hP
    replace hR := hR.trans hRn
    replace hW := Lib.hid hWn
    clear hRn hWn
    have p0 := hP.1.at 0 _ rfl
    have p1 := hP.1.at 1 _ rfl
    have p2 := hP.1.at 2 _ rfl
    have p3 := hP.1.at 3 _ rfl
    have p4 := hP.1.at 4 _ rfl
    have p5 := hP.1.at 5 _ rfl
    have p6 := hP.1.at 6 _ rfl
    have p7 := hP.1.at 7 _ rfl
    have p8 := hP.1.at 8 _ rfl
    have p9 := hP.1.at 9 _ rfl
    have p10 := hP.1.at 10 _ rfl
    have p11 := hP.1.at 11 _ rfl
    go_wp2_with fail
    refine (HP.out _ 5 (⟨#[59]⟩ : ByteArray) _ hW.out (by have := hlim.out; (try simp only [List.length_append, List.length_cons, List.length_nil]); omega)).mono ?_
    rintro e w3 ⟨rfl, hWn, hRn⟩
    clear p0 p1 p2 p3 p4 p5 p6 p7 p8 p9 p10 p11
    replace hP := hRn.2.2 _ _ _ (by omega) (by decide) hP
    replace hR := hR.trans hRn
    replace hW := Lib.hid hWn
    clear hRn hWn
    have p0 := hP.1.at 0 _ rfl
    have p1 := hP.1.at 1 _ rfl
    have p2 := hP.1.at 2 _ rfl
    have p3 := hP.1.at 3 _ rfl
    have p4 := hP.1.at 4 _ rfl
    have p5 := hP.1.at 5 _ rfl
    have p6 := hP.1.at 6 _ rfl
    have p7 := hP.1.at 7 _ rfl
    have p8 := hP.1.at 8 _ rfl
    have p9 := hP.1.at 9 _ rfl
    have p10 := hP.1.at 10 _ rfl
    have p11 := hP.1.at 11 _ rfl
    go_wp2_with fail
    go_end0
    exact ⟨rfl, by simpa using hW.out, hR⟩
set_option maxHeartbeats 1000000 in
set_option maxRecDepth 100000 in
theorem wc_if (n : Nat) (kd : Int) (A0 : Option Addr) (c0 : Nat) (tx : List ByteArray) (tk' mt pt : Int) (A1 : Option Addr) (c1 : Nat) (nm : List ByteArray) (A2 : Option Addr) (c2 : Nat) (ks : List ByteArray) (ov : Bool) (lm : Int) (A3 : Option Addr) (c3 : Nat) (ts : List (TestN n)) (A4 : Option Addr) (c4 : Nat) (th : List (CmdN n)) (A5 : Option Addr) (c5 : Nat) (el : List (CmdN n)) (b : Nat) (l0 : List AToken) (w : World) (hW : WrAt w b l0) (hT : Tabs w b) (k1 : 2 ≤ kd) (k2 : kd ≤ 2) (Rx : List AToken) (wx : Nat) (hlim : l0.length + 8 * wx ≤ 1073741824) (hwx : 1 ≤ wx)
    (HB : ∀ l0 W, Below b w W → Tabs W b → WrAt W b l0 → l0.length + (8 * wx - 1) ≤ 1073741824 → Calls Tryd.prog 113 #[.pointer (some ⟨b, 0, none⟩), .agg #[.int .i64 kd, .slice A0 tx.length c0, .int .i64 tk', .int .i64 mt, .int .i64 pt, .slice A1 nm.length c1, .slice A2 ks.length c2, .bool ov, .int .i64 lm, .slice A3 ts.length c3, .slice A4 th.length c4, .slice A5 el.length c5]] W fun e w' => e = .returned (.tuple #[]) ∧ WrAt w' b (l0 ++ Rx) ∧ Wrote b W w') :
    Calls Tryd.prog 72 #[.pointer (some ⟨b, 0, none⟩), .agg #[.int .i64 kd, .slice A0 tx.length c0, .int .i64 tk', .int .i64 mt, .int .i64 pt, .slice A1 nm.length c1, .slice A2 ks.length c2, .bool ov, .int .i64 lm, .slice A3 ts.length c3, .slice A4 th.length c4, .slice A5 el.length c5]] w fun e w' => e = .returned (.tuple #[]) ∧ WrAt w' b (l0 ++ (tk 1 (wordAt commandWords kd) :: Rx)) ∧ Wrote b w w' := by
  have b2 : (kd == 2) = true := by rw [beq_iff_eq]; omega
  replace HB := Lib.hid HB
  obtain ⟨k, hkd⟩ : ∃ k : Nat, kd = (k : Int) := ⟨kd.toNat, by omega⟩
  have hwd := word_at (hT.2.2.2.step (show Below b w (w.alloc (.cells #[.int .i64 kd, .slice A0 tx.length c0, .int .i64 tk', .int .i64 mt, .int .i64 pt, .slice A1 nm.length c1, .slice A2 ks.length c2, .bool ov, .int .i64 lm, .slice A3 ts.length c3, .slice A4 th.length c4, .slice A5 el.length c5] 109)) from (Below.refl _ _).alloc (Nat.le_of_lt hW.lt) _)) k (by show k < 11; omega)
  rw [← hkd] at hwd
  have i0 : 0 ≤ kd := by omega
  have i1 : kd < 11 := by omega
  have hkn : kd.toNat = k := by omega
  replace hT := Lib.hid hT
  clear hkd k1 k2
  have hbl := hW.lt
  have hP : BlkT (w.alloc (.cells #[.int .i64 kd, .slice A0 tx.length c0, .int .i64 tk', .int .i64 mt, .int .i64 pt, .slice A1 nm.length c1, .slice A2 ks.length c2, .bool ov, .int .i64 lm, .slice A3 ts.length c3, .slice A4 th.length c4, .slice A5 el.length c5] 109)) w.heap.size 109 [.int .i64 kd, .slice A0 tx.length c0, .int .i64 tk', .int .i64 mt, .int .i64 pt, .slice A1 nm.length c1, .slice A2 ks.length c2, .bool ov, .int .i64 lm, .slice A3 ts.length c3, .slice A4 th.length c4, .slice A5 el.length c5] := BlkT.made w _ _
  have hR : Wrote b w (w.alloc (.cells #[.int .i64 kd, .slice A0 tx.length c0, .int .i64 tk', .int .i64 mt, .int .i64 pt, .slice A1 nm.length c1, .slice A2 ks.length c2, .bool ov, .int .i64 lm, .slice A3 ts.length c3, .slice A4 th.length c4, .slice A5 el.length c5] 109)) := (Wrote.refl b w).alloc (Nat.le_of_lt hbl) _
  have HP := Lib.hid (fun l k s w h hl => put_calls b l k s w h hl)
  replace hW := Lib.hid (hW.below ((Below.refl _ _).alloc (Nat.le_refl _) (.cells #[.int .i64 kd, .slice A0 tx.length c0, .int .i64 tk', .int .i64 mt, .int .i64 pt, .slice A1 nm.length c1, .slice A2 ks.length c2, .bool ov, .int .i64 lm, .slice A3 ts.length c3, .slice A4 th.length c4, .slice A5 el.length c5] 109)))
  have p0 := hP.1.at 0 _ rfl
  have p1 := hP.1.at 1 _ rfl
  have p2 := hP.1.at 2 _ rfl
  have p3 := hP.1.at 3 _ rfl
  have p4 := hP.1.at 4 _ rfl
  have p5 := hP.1.at 5 _ rfl
  have p6 := hP.1.at 6 _ rfl
  have p7 := hP.1.at 7 _ rfl
  have p8 := hP.1.at 8 _ rfl
  have p9 := hP.1.at 9 _ rfl
  have p10 := hP.1.at 10 _ rfl
  have p11 := hP.1.at 11 _ rfl
  replace hlim := Lib.hid hlim
  generalize wordAt commandWords kd = word at *
  go_enter Tryd.func72, Tryd.ntmps72
  go_wp2_with fail
  refine (HP.out _ 1 word _ hW.out (by have := hlim.out; (try simp only [List.length_append, List.length_cons, List.length_nil]); omega)).mono ?_
  rintro e w1 ⟨rfl, hWn, hRn⟩
  clear p0 p1 p2 p3 p4 p5 p6 p7 p8 p9 p10 p11
  replace hP := hRn.2.2 _ _ _ (by omega) (by decide) hP
  replace hR := hR.trans hRn
  replace hW := Lib.hid hWn
  clear hRn hWn
  have p0 := hP.1.at 0 _ rfl
  have p1 := hP.1.at 1 _ rfl
  have p2 := hP.1.at 2 _ rfl
  have p3 := hP.1.at 3 _ rfl
  have p4 := hP.1.at 4 _ rfl
  have p5 := hP.1.at 5 _ rfl
  have p6 := hP.1.at 6 _ rfl
  have p7 := hP.1.at 7 _ rfl
  have p8 := hP.1.at 8 _ rfl
  have p9 := hP.1.at 9 _ rfl
  have p10 := hP.1.at 10 _ rfl
  have p11 := hP.1.at 11 _ rfl
  go_wp2_with fail
  refine (HB.out _ _ hR.1 (hT.out.step hR.1) hW.out (by have := hlim.out; (try simp only [List.length_append, List.length_cons, List.length_nil]); omega)).mono ?_
  rintro e w2 ⟨rfl, hWn, hRn⟩
  replace hWn := Lib.hid hWn
  replace hR := hR.trans hRn
  go_wp2_with fail
  refine bodyPost_ret (results_none rfl _ _ _) rfl ?_
  exact ⟨rfl, by simpa using hWn.out, hR⟩
end Go.Proofs.YtijdghplfhfpaaaDoor.H

/- Scripts: the writer's branch. -/
namespace Go.Proofs.YtijdghplfhfpaaaDoor.H
open Go.RowKit Go.Proofs.YtijdghplfhfpaaaDoorW.PrintWords Go.Proofs.YtijdghplfhfpaaaDoorW.PrintLast Go.Proofs.YtijdghplfhfpaaaDoor.U
set_option linter.unusedVariables false
set_option linter.unusedSimpArgs false
set_option maxHeartbeats 1000000 in
set_option maxRecDepth 100000 in
theorem wb_n (n : Nat) (kd : Int) (A0 : Option Addr) (c0 : Nat) (tx : List ByteArray) (tk' mt pt : Int) (A1 : Option Addr) (c1 : Nat) (nm : List ByteArray) (A2 : Option Addr) (c2 : Nat) (ks : List ByteArray) (ov : Bool) (lm : Int) (A3 : Option Addr) (c3 : Nat) (ts : List (TestN n)) (A4 : Option Addr) (c4 : Nat) (th : List (CmdN n)) (A5 : Option Addr) (c5 : Nat) (el : List (CmdN n)) (b : Nat) (l0 : List AToken) (w : World) (hW : WrAt w b l0) (hT : Tabs w b) (St Sh : List AToken) (wt wh we : Nat) (hSt : St.length + 1 ≤ 8 * wt) (hSh : Sh.length ≤ 8 * wh) (hlim : l0.length + 8 * (1 + wt + wh + we) ≤ 1073741825)
    (HT : ∀ l0 W, Below b w W → Tabs W b → WrAt W b l0 → l0.length + 8 * wt ≤ 1073741824 → Calls Tryd.prog 161 #[.pointer (some ⟨b, 0, none⟩), .agg #[.int .i64 tk', .int .i64 mt, .int .i64 pt, .slice A1 nm.length c1, .slice A2 ks.length c2, .bool ov, .int .i64 lm, .slice A3 ts.length c3]] W fun e w' => e = .returned (.tuple #[]) ∧ WrAt w' b (l0 ++ St) ∧ Wrote b W w')
    (HH : ∀ l0 W, Below b w W → Tabs W b → WrAt W b l0 → l0.length + 8 * wh + 2 ≤ 1073741824 → Calls Tryd.prog 162 #[.pointer (some ⟨b, 0, none⟩), .slice A4 th.length c4] W fun e w' => e = .returned (.tuple #[]) ∧ WrAt w' b (l0 ++ (tk 5 (⟨#[123]⟩ : ByteArray) :: (Sh ++ [tk 5 (⟨#[125]⟩ : ByteArray)]))) ∧ Wrote b W w') (hn : el.length = 0) : Calls Tryd.prog 113 #[.pointer (some ⟨b, 0, none⟩), .agg #[.int .i64 kd, .slice A0 tx.length c0, .int .i64 tk', .int .i64 mt, .int .i64 pt, .slice A1 nm.length c1, .slice A2 ks.length c2, .bool ov, .int .i64 lm, .slice A3 ts.length c3, .slice A4 th.length c4, .slice A5 el.length c5]] w (fun e w' => e = .returned (.tuple #[]) ∧ WrAt w' b (l0 ++ (St ++ (tk 5 (⟨#[123]⟩ : ByteArray) :: (Sh ++ tk 5 (⟨#[125]⟩ : ByteArray) :: [])))) ∧ Wrote b w w') := by
  have hn1 : ((el.length : Int) == 1) = false := by rw [beq_eq_false_iff_ne]; omega
  have hn2 : ¬ (0 : Int) < (el.length : Int) := by omega
  have hn3 : ¬ 0 < el.length := by omega
  clear hn
  replace HT := Lib.hid HT
  replace HH := Lib.hid HH
  replace hT := Lib.hid hT
  have hSS := Lib.hid (And.intro hSt hSh)
  clear hSt hSh
  have hbl := hW.lt
  have hP : BlkT (w.alloc (.cells #[.int .i64 kd, .slice A0 tx.length c0, .int .i64 tk', .int .i64 mt, .int .i64 pt, .slice A1 nm.length c1, .slice A2 ks.length c2, .bool ov, .int .i64 lm, .slice A3 ts.length c3, .slice A4 th.length c4, .slice A5 el.length c5] 109)) w.heap.size 109 [.int .i64 kd, .slice A0 tx.length c0, .int .i64 tk', .int .i64 mt, .int .i64 pt, .slice A1 nm.length c1, .slice A2 ks.length c2, .bool ov, .int .i64 lm, .slice A3 ts.length c3, .slice A4 th.length c4, .slice A5 el.length c5] := BlkT.made w _ _
  have hR : Wrote b w (w.alloc (.cells #[.int .i64 kd, .slice A0 tx.length c0, .int .i64 tk', .int .i64 mt, .int .i64 pt, .slice A1 nm.length c1, .slice A2 ks.length c2, .bool ov, .int .i64 lm, .slice A3 ts.length c3, .slice A4 th.length c4, .slice A5 el.length c5] 109)) := (Wrote.refl b w).alloc (Nat.le_of_lt hbl) _
  have HP := Lib.hid (fun l k s w h hl => put_calls b l k s w h hl)
  replace hW := Lib.hid (hW.below ((Below.refl _ _).alloc (Nat.le_refl _) (.cells #[.int .i64 kd, .slice A0 tx.length c0, .int .i64 tk', .int .i64 mt, .int .i64 pt, .slice A1 nm.length c1, .slice A2 ks.length c2, .bool ov, .int .i64 lm, .slice A3 ts.length c3, .slice A4 th.length c4, .slice A5 el.length c5] 109)))
  have p0 := hP.1.at 0 _ rfl
  have p1 := hP.1.at 1 _ rfl
  have p2 := hP.1.at 2 _ rfl
  have p3 := hP.1.at 3 _ rfl
  have p4 := hP.1.at 4 _ rfl
  have p5 := hP.1.at 5 _ rfl
  have p6 := hP.1.at 6 _ rfl
  have p7 := hP.1.at 7 _ rfl
  have p8 := hP.1.at 8 _ rfl
  have p9 := hP.1.at 9 _ rfl
  have p10 := hP.1.at 10 _ rfl
  have p11 := hP.1.at 11 _ rfl
  replace hlim := Lib.hid hlim
  go_enter Tryd.func113, Tryd.ntmps113
  go_wp2_with fail
  refine (HT.out _ _ hR.1 (hT.out.step hR.1) hW.out (by have := hlim.out; have := hSS.out.1; have := hSS.out.2; (try simp only [List.length_append, List.length_cons, List.length_nil]); omega)).mono ?_
  rintro e w1 ⟨rfl, hWn, hRn⟩
  clear p0 p1 p2 p3 p4 p5 p6 p7 p8 p9 p10 p11
  replace hP := hRn.2.2 _ _ _ (by omega) (by decide) hP
  replace hR := hR.trans hRn
  replace hW := Lib.hid hWn
  clear hRn hWn
  have p0 := hP.1.at 0 _ rfl
  have p1 := hP.1.at 1 _ rfl
  have p2 := hP.1.at 2 _ rfl
  have p3 := hP.1.at 3 _ rfl
  have p4 := hP.1.at 4 _ rfl
  have p5 := hP.1.at 5 _ rfl
  have p6 := hP.1.at 6 _ rfl
  have p7 := hP.1.at 7 _ rfl
  have p8 := hP.1.at 8 _ rfl
  have p9 := hP.1.at 9 _ rfl
  have p10 := hP.1.at 10 _ rfl
  have p11 := hP.1.at 11 _ rfl
  go_wp2_with fail
  refine (HH.out _ _ hR.1 (hT.out.step hR.1) hW.out (by have := hlim.out; have := hSS.out.1; have := hSS.out.2; (try simp only [List.length_append, List.length_cons, List.length_nil]); omega)).mono ?_
  rintro e w2 ⟨rfl, hWn, hRn⟩
  clear p0 p1 p2 p3 p4 p5 p6 p7 p8 p9 p10 p11
  replace hP := hRn.2.2 _ _ _ (by omega) (by decide) hP
  replace hR := hR.trans hRn
  replace hW := Lib.hid hWn
  clear hRn hWn
  have p0 := hP.1.at 0 _ rfl
  have p1 := hP.1.at 1 _ rfl
  have p2 := hP.1.at 2 _ rfl
  have p3 := hP.1.at 3 _ rfl
  have p4 := hP.1.at 4 _ rfl
  have p5 := hP.1.at 5 _ rfl
  have p6 := hP.1.at 6 _ rfl
  have p7 := hP.1.at 7 _ rfl
  have p8 := hP.1.at 8 _ rfl
  have p9 := hP.1.at 9 _ rfl
  have p10 := hP.1.at 10 _ rfl
  have p11 := hP.1.at 11 _ rfl
  go_wp2_with fail
  go_end0
  exact ⟨rfl, by simpa using hW.out, hR⟩
set_option maxHeartbeats 1000000 in
set_option maxRecDepth 100000 in
theorem wb_m (n : Nat) (kd : Int) (A0 : Option Addr) (c0 : Nat) (tx : List ByteArray) (tk' mt pt : Int) (A1 : Option Addr) (c1 : Nat) (nm : List ByteArray) (A2 : Option Addr) (c2 : Nat) (ks : List ByteArray) (ov : Bool) (lm : Int) (A3 : Option Addr) (c3 : Nat) (ts : List (TestN n)) (A4 : Option Addr) (c4 : Nat) (th : List (CmdN n)) (A5 : Option Addr) (c5 : Nat) (el : List (CmdN n)) (b : Nat) (l0 : List AToken) (w : World) (hW : WrAt w b l0) (hT : Tabs w b) (St Sh : List AToken) (wt wh we : Nat) (hSt : St.length + 1 ≤ 8 * wt) (hSh : Sh.length ≤ 8 * wh) (hlim : l0.length + 8 * (1 + wt + wh + we) ≤ 1073741825)
    (HT : ∀ l0 W, Below b w W → Tabs W b → WrAt W b l0 → l0.length + 8 * wt ≤ 1073741824 → Calls Tryd.prog 161 #[.pointer (some ⟨b, 0, none⟩), .agg #[.int .i64 tk', .int .i64 mt, .int .i64 pt, .slice A1 nm.length c1, .slice A2 ks.length c2, .bool ov, .int .i64 lm, .slice A3 ts.length c3]] W fun e w' => e = .returned (.tuple #[]) ∧ WrAt w' b (l0 ++ St) ∧ Wrote b W w')
    (HH : ∀ l0 W, Below b w W → Tabs W b → WrAt W b l0 → l0.length + 8 * wh + 2 ≤ 1073741824 → Calls Tryd.prog 162 #[.pointer (some ⟨b, 0, none⟩), .slice A4 th.length c4] W fun e w' => e = .returned (.tuple #[]) ∧ WrAt w' b (l0 ++ (tk 5 (⟨#[123]⟩ : ByteArray) :: (Sh ++ [tk 5 (⟨#[125]⟩ : ByteArray)]))) ∧ Wrote b W w') (Se : List AToken) (HE : ∀ l0 W, Below b w W → Tabs W b → WrAt W b l0 → l0.length + 8 * we + 2 ≤ 1073741824 → Calls Tryd.prog 162 #[.pointer (some ⟨b, 0, none⟩), .slice A5 el.length c5] W fun e w' => e = .returned (.tuple #[]) ∧ WrAt w' b (l0 ++ (tk 5 (⟨#[123]⟩ : ByteArray) :: (Se ++ [tk 5 (⟨#[125]⟩ : ByteArray)]))) ∧ Wrote b W w') (hn : 1 < el.length) : Calls Tryd.prog 113 #[.pointer (some ⟨b, 0, none⟩), .agg #[.int .i64 kd, .slice A0 tx.length c0, .int .i64 tk', .int .i64 mt, .int .i64 pt, .slice A1 nm.length c1, .slice A2 ks.length c2, .bool ov, .int .i64 lm, .slice A3 ts.length c3, .slice A4 th.length c4, .slice A5 el.length c5]] w (fun e w' => e = .returned (.tuple #[]) ∧ WrAt w' b (l0 ++ (St ++ (tk 5 (⟨#[123]⟩ : ByteArray) :: (Sh ++ tk 5 (⟨#[125]⟩ : ByteArray) :: (tk 1 (⟨#[101, 108, 115, 101]⟩ : ByteArray) :: tk 5 (⟨#[123]⟩ : ByteArray) :: (Se ++ [tk 5 (⟨#[125]⟩ : ByteArray)])))))) ∧ Wrote b w w') := by
  have hn1 : ((el.length : Int) == 1) = false := by rw [beq_eq_false_iff_ne]; omega
  have hn2 : (0 : Int) < (el.length : Int) := by omega
  have hn3 : 0 < el.length := by omega
  clear hn
  replace HE := Lib.hid HE
  replace HT := Lib.hid HT
  replace HH := Lib.hid HH
  replace hT := Lib.hid hT
  have hSS := Lib.hid (And.intro hSt hSh)
  clear hSt hSh
  have hbl := hW.lt
  have hP : BlkT (w.alloc (.cells #[.int .i64 kd, .slice A0 tx.length c0, .int .i64 tk', .int .i64 mt, .int .i64 pt, .slice A1 nm.length c1, .slice A2 ks.length c2, .bool ov, .int .i64 lm, .slice A3 ts.length c3, .slice A4 th.length c4, .slice A5 el.length c5] 109)) w.heap.size 109 [.int .i64 kd, .slice A0 tx.length c0, .int .i64 tk', .int .i64 mt, .int .i64 pt, .slice A1 nm.length c1, .slice A2 ks.length c2, .bool ov, .int .i64 lm, .slice A3 ts.length c3, .slice A4 th.length c4, .slice A5 el.length c5] := BlkT.made w _ _
  have hR : Wrote b w (w.alloc (.cells #[.int .i64 kd, .slice A0 tx.length c0, .int .i64 tk', .int .i64 mt, .int .i64 pt, .slice A1 nm.length c1, .slice A2 ks.length c2, .bool ov, .int .i64 lm, .slice A3 ts.length c3, .slice A4 th.length c4, .slice A5 el.length c5] 109)) := (Wrote.refl b w).alloc (Nat.le_of_lt hbl) _
  have HP := Lib.hid (fun l k s w h hl => put_calls b l k s w h hl)
  replace hW := Lib.hid (hW.below ((Below.refl _ _).alloc (Nat.le_refl _) (.cells #[.int .i64 kd, .slice A0 tx.length c0, .int .i64 tk', .int .i64 mt, .int .i64 pt, .slice A1 nm.length c1, .slice A2 ks.length c2, .bool ov, .int .i64 lm, .slice A3 ts.length c3, .slice A4 th.length c4, .slice A5 el.length c5] 109)))
  have p0 := hP.1.at 0 _ rfl
  have p1 := hP.1.at 1 _ rfl
  have p2 := hP.1.at 2 _ rfl
  have p3 := hP.1.at 3 _ rfl
  have p4 := hP.1.at 4 _ rfl
  have p5 := hP.1.at 5 _ rfl
  have p6 := hP.1.at 6 _ rfl
  have p7 := hP.1.at 7 _ rfl
  have p8 := hP.1.at 8 _ rfl
  have p9 := hP.1.at 9 _ rfl
  have p10 := hP.1.at 10 _ rfl
  have p11 := hP.1.at 11 _ rfl
  replace hlim := Lib.hid hlim
  go_enter Tryd.func113, Tryd.ntmps113
  go_wp2_with fail
  refine (HT.out _ _ hR.1 (hT.out.step hR.1) hW.out (by have := hlim.out; have := hSS.out.1; have := hSS.out.2; (try simp only [List.length_append, List.length_cons, List.length_nil]); omega)).mono ?_
  rintro e w1 ⟨rfl, hWn, hRn⟩
  clear p0 p1 p2 p3 p4 p5 p6 p7 p8 p9 p10 p11
  replace hP := hRn.2.2 _ _ _ (by omega) (by decide) hP
  replace hR := hR.trans hRn
  replace hW := Lib.hid hWn
  clear hRn hWn
  have p0 := hP.1.at 0 _ rfl
  have p1 := hP.1.at 1 _ rfl
  have p2 := hP.1.at 2 _ rfl
  have p3 := hP.1.at 3 _ rfl
  have p4 := hP.1.at 4 _ rfl
  have p5 := hP.1.at 5 _ rfl
  have p6 := hP.1.at 6 _ rfl
  have p7 := hP.1.at 7 _ rfl
  have p8 := hP.1.at 8 _ rfl
  have p9 := hP.1.at 9 _ rfl
  have p10 := hP.1.at 10 _ rfl
  have p11 := hP.1.at 11 _ rfl
  go_wp2_with fail
  refine (HH.out _ _ hR.1 (hT.out.step hR.1) hW.out (by have := hlim.out; have := hSS.out.1; have := hSS.out.2; (try simp only [List.length_append, List.length_cons, List.length_nil]); omega)).mono ?_
  rintro e w2 ⟨rfl, hWn, hRn⟩
  clear p0 p1 p2 p3 p4 p5 p6 p7 p8 p9 p10 p11
  replace hP := hRn.2.2 _ _ _ (by omega) (by decide) hP
  replace hR := hR.trans hRn
  replace hW := Lib.hid hWn
  clear hRn hWn
  have p0 := hP.1.at 0 _ rfl
  have p1 := hP.1.at 1 _ rfl
  have p2 := hP.1.at 2 _ rfl
  have p3 := hP.1.at 3 _ rfl
  have p4 := hP.1.at 4 _ rfl
  have p5 := hP.1.at 5 _ rfl
  have p6 := hP.1.at 6 _ rfl
  have p7 := hP.1.at 7 _ rfl
  have p8 := hP.1.at 8 _ rfl
  have p9 := hP.1.at 9 _ rfl
  have p10 := hP.1.at 10 _ rfl
  have p11 := hP.1.at 11 _ rfl
  go_wp2_with fail
  skip
  refine (HP.out _ 1 (⟨#[101, 108, 115, 101]⟩ : ByteArray) _ hW.out (by have := hlim.out; have := hSS.out.1; have := hSS.out.2; (try simp only [List.length_append, List.length_cons, List.length_nil]); omega)).mono ?_
  rintro e w3 ⟨rfl, hWn, hRn⟩
  clear p0 p1 p2 p3 p4 p5 p6 p7 p8 p9 p10 p11
  replace hP := hRn.2.2 _ _ _ (by omega) (by decide) hP
  replace hR := hR.trans hRn
  replace hW := Lib.hid hWn
  clear hRn hWn
  have p0 := hP.1.at 0 _ rfl
  have p1 := hP.1.at 1 _ rfl
  have p2 := hP.1.at 2 _ rfl
  have p3 := hP.1.at 3 _ rfl
  have p4 := hP.1.at 4 _ rfl
  have p5 := hP.1.at 5 _ rfl
  have p6 := hP.1.at 6 _ rfl
  have p7 := hP.1.at 7 _ rfl
  have p8 := hP.1.at 8 _ rfl
  have p9 := hP.1.at 9 _ rfl
  have p10 := hP.1.at 10 _ rfl
  have p11 := hP.1.at 11 _ rfl
  go_wp2_with fail
  refine (HE.out _ _ hR.1 (hT.out.step hR.1) hW.out (by have := hlim.out; have := hSS.out.1; have := hSS.out.2; (try simp only [List.length_append, List.length_cons, List.length_nil]); omega)).mono ?_
  rintro e w4 ⟨rfl, hWn, hRn⟩
  replace hWn := Lib.hid hWn
  replace hR := hR.trans hRn
  go_wp2_with fail
  go_end0
  exact ⟨rfl, by simpa using hWn.out, hR⟩
set_option maxHeartbeats 1000000 in
set_option maxRecDepth 100000 in
theorem wb_1 (n : Nat) (kd : Int) (A0 : Option Addr) (c0 : Nat) (tx : List ByteArray) (tk' mt pt : Int) (A1 : Option Addr) (c1 : Nat) (nm : List ByteArray) (A2 : Option Addr) (c2 : Nat) (ks : List ByteArray) (ov : Bool) (lm : Int) (A3 : Option Addr) (c3 : Nat) (ts : List (TestN n)) (A4 : Option Addr) (c4 : Nat) (th : List (CmdN n)) (A5 : Option Addr) (c5 : Nat) (el : List (CmdN n)) (b : Nat) (l0 : List AToken) (w : World) (hW : WrAt w b l0) (hT : Tabs w b) (St Sh : List AToken) (wt wh we : Nat) (hSt : St.length + 1 ≤ 8 * wt) (hSh : Sh.length ≤ 8 * wh) (hlim : l0.length + 8 * (1 + wt + wh + we) ≤ 1073741825)
    (HT : ∀ l0 W, Below b w W → Tabs W b → WrAt W b l0 → l0.length + 8 * wt ≤ 1073741824 → Calls Tryd.prog 161 #[.pointer (some ⟨b, 0, none⟩), .agg #[.int .i64 tk', .int .i64 mt, .int .i64 pt, .slice A1 nm.length c1, .slice A2 ks.length c2, .bool ov, .int .i64 lm, .slice A3 ts.length c3]] W fun e w' => e = .returned (.tuple #[]) ∧ WrAt w' b (l0 ++ St) ∧ Wrote b W w')
    (HH : ∀ l0 W, Below b w W → Tabs W b → WrAt W b l0 → l0.length + 8 * wh + 2 ≤ 1073741824 → Calls Tryd.prog 162 #[.pointer (some ⟨b, 0, none⟩), .slice A4 th.length c4] W fun e w' => e = .returned (.tuple #[]) ∧ WrAt w' b (l0 ++ (tk 5 (⟨#[123]⟩ : ByteArray) :: (Sh ++ [tk 5 (⟨#[125]⟩ : ByteArray)]))) ∧ Wrote b W w') (Se : List AToken) (HE : ∀ l0 W, Below b w W → Tabs W b → WrAt W b l0 → l0.length + 8 * we + 2 ≤ 1073741824 → Calls Tryd.prog 162 #[.pointer (some ⟨b, 0, none⟩), .slice A5 el.length c5] W fun e w' => e = .returned (.tuple #[]) ∧ WrAt w' b (l0 ++ (tk 5 (⟨#[123]⟩ : ByteArray) :: (Se ++ [tk 5 (⟨#[125]⟩ : ByteArray)]))) ∧ Wrote b W w') (hn : el.length = 1) (r5 : Und (kCmd n) w b A5 el) (hk : ¬ kindC n (el[0]'(by omega)) = 2) : Calls Tryd.prog 113 #[.pointer (some ⟨b, 0, none⟩), .agg #[.int .i64 kd, .slice A0 tx.length c0, .int .i64 tk', .int .i64 mt, .int .i64 pt, .slice A1 nm.length c1, .slice A2 ks.length c2, .bool ov, .int .i64 lm, .slice A3 ts.length c3, .slice A4 th.length c4, .slice A5 el.length c5]] w (fun e w' => e = .returned (.tuple #[]) ∧ WrAt w' b (l0 ++ (St ++ (tk 5 (⟨#[123]⟩ : ByteArray) :: (Sh ++ tk 5 (⟨#[125]⟩ : ByteArray) :: (tk 1 (⟨#[101, 108, 115, 101]⟩ : ByteArray) :: tk 5 (⟨#[123]⟩ : ByteArray) :: (Se ++ [tk 5 (⟨#[125]⟩ : ByteArray)])))))) ∧ Wrote b w w') := by
  have hn1 : ((el.length : Int) == 1) = true := by rw [beq_iff_eq]; omega
  have hn2 : (0 : Int) < (el.length : Int) := by omega
  have hn3 : 0 < el.length := by omega
  skip
  obtain ⟨ad, cx, e1', hKx, hxx⟩ := r5.elem (kCmd_sz n) 0 (by omega)
  obtain ⟨X1, l1, C1, x2, x3, x4, X5, l5, C5, X6, l6, C6, x7, x8, X9, l9, C9, X10, l10, C10, X11, l11, C11, rfl⟩ := cmdN_K hKx.now
  have ez : ad.add (0 * 12) = ad := by simp [Addr.add]
  rw [ez] at hxx
  have FF := Lib.hid (fun W (h : Below b w W) => And.intro ((hxx W h).1 _ rfl) (And.intro ((hxx W h).2 1 _ (by decide) rfl) (And.intro ((hxx W h).2 2 _ (by decide) rfl) (And.intro ((hxx W h).2 3 _ (by decide) rfl) (And.intro ((hxx W h).2 4 _ (by decide) rfl) (And.intro ((hxx W h).2 5 _ (by decide) rfl) (And.intro ((hxx W h).2 6 _ (by decide) rfl) (And.intro ((hxx W h).2 7 _ (by decide) rfl) (And.intro ((hxx W h).2 8 _ (by decide) rfl) (And.intro ((hxx W h).2 9 _ (by decide) rfl) (And.intro ((hxx W h).2 10 _ (by decide) rfl) ((hxx W h).2 11 _ (by decide) rfl))))))))))))
  generalize kindC n (el[0]'(by omega)) = x0 at *
  have hkb : (x0 == 2) = false := by rw [beq_eq_false_iff_ne]; exact hk
  clear hn hxx hKx ez r5 hk
  replace HE := Lib.hid HE
  replace e1' := Lib.hid e1'
  replace HT := Lib.hid HT
  replace HH := Lib.hid HH
  replace hT := Lib.hid hT
  have hSS := Lib.hid (And.intro hSt hSh)
  clear hSt hSh
  have hbl := hW.lt
  have hP : BlkT (w.alloc (.cells #[.int .i64 kd, .slice A0 tx.length c0, .int .i64 tk', .int .i64 mt, .int .i64 pt, .slice A1 nm.length c1, .slice A2 ks.length c2, .bool ov, .int .i64 lm, .slice A3 ts.length c3, .slice A4 th.length c4, .slice A5 el.length c5] 109)) w.heap.size 109 [.int .i64 kd, .slice A0 tx.length c0, .int .i64 tk', .int .i64 mt, .int .i64 pt, .slice A1 nm.length c1, .slice A2 ks.length c2, .bool ov, .int .i64 lm, .slice A3 ts.length c3, .slice A4 th.length c4, .slice A5 el.length c5] := BlkT.made w _ _
  have hR : Wrote b w (w.alloc (.cells #[.int .i64 kd, .slice A0 tx.length c0, .int .i64 tk', .int .i64 mt, .int .i64 pt, .slice A1 nm.length c1, .slice A2 ks.length c2, .bool ov, .int .i64 lm, .slice A3 ts.length c3, .slice A4 th.length c4, .slice A5 el.length c5] 109)) := (Wrote.refl b w).alloc (Nat.le_of_lt hbl) _
  have HP := Lib.hid (fun l k s w h hl => put_calls b l k s w h hl)
  replace hW := Lib.hid (hW.below ((Below.refl _ _).alloc (Nat.le_refl _) (.cells #[.int .i64 kd, .slice A0 tx.length c0, .int .i64 tk', .int .i64 mt, .int .i64 pt, .slice A1 nm.length c1, .slice A2 ks.length c2, .bool ov, .int .i64 lm, .slice A3 ts.length c3, .slice A4 th.length c4, .slice A5 el.length c5] 109)))
  have p0 := hP.1.at 0 _ rfl
  have p1 := hP.1.at 1 _ rfl
  have p2 := hP.1.at 2 _ rfl
  have p3 := hP.1.at 3 _ rfl
  have p4 := hP.1.at 4 _ rfl
  have p5 := hP.1.at 5 _ rfl
  have p6 := hP.1.at 6 _ rfl
  have p7 := hP.1.at 7 _ rfl
  have p8 := hP.1.at 8 _ rfl
  have p9 := hP.1.at 9 _ rfl
  have p10 := hP.1.at 10 _ rfl
  have p11 := hP.1.at 11 _ rfl
  replace hlim := Lib.hid hlim
  go_enter Tryd.func113, Tryd.ntmps113
  go_wp2_with fail
  refine (HT.out _ _ hR.1 (hT.out.step hR.1) hW.out (by have := hlim.out; have := hSS.out.1; have := hSS.out.2; (try simp only [List.length_append, List.length_cons, List.length_nil]); omega)).mono ?_
  rintro e w1 ⟨rfl, hWn, hRn⟩
  clear p0 p1 p2 p3 p4 p5 p6 p7 p8 p9 p10 p11
  replace hP := hRn.2.2 _ _ _ (by omega) (by decide) hP
  replace hR := hR.trans hRn
  replace hW := Lib.hid hWn
  clear hRn hWn
  have p0 := hP.1.at 0 _ rfl
  have p1 := hP.1.at 1 _ rfl
  have p2 := hP.1.at 2 _ rfl
  have p3 := hP.1.at 3 _ rfl
  have p4 := hP.1.at 4 _ rfl
  have p5 := hP.1.at 5 _ rfl
  have p6 := hP.1.at 6 _ rfl
  have p7 := hP.1.at 7 _ rfl
  have p8 := hP.1.at 8 _ rfl
  have p9 := hP.1.at 9 _ rfl
  have p10 := hP.1.at 10 _ rfl
  have p11 := hP.1.at 11 _ rfl
  go_wp2_with fail
  refine (HH.out _ _ hR.1 (hT.out.step hR.1) hW.out (by have := hlim.out; have := hSS.out.1; have := hSS.out.2; (try simp only [List.length_append, List.length_cons, List.length_nil]); omega)).mono ?_
  rintro e w2 ⟨rfl, hWn, hRn⟩
  clear p0 p1 p2 p3 p4 p5 p6 p7 p8 p9 p10 p11
  replace hP := hRn.2.2 _ _ _ (by omega) (by decide) hP
  replace hR := hR.trans hRn
  replace hW := Lib.hid hWn
  clear hRn hWn
  have p0 := hP.1.at 0 _ rfl
  have p1 := hP.1.at 1 _ rfl
  have p2 := hP.1.at 2 _ rfl
  have p3 := hP.1.at 3 _ rfl
  have p4 := hP.1.at 4 _ rfl
  have p5 := hP.1.at 5 _ rfl
  have p6 := hP.1.at 6 _ rfl
  have p7 := hP.1.at 7 _ rfl
  have p8 := hP.1.at 8 _ rfl
  have p9 := hP.1.at 9 _ rfl
  have p10 := hP.1.at 10 _ rfl
  have p11 := hP.1.at 11 _ rfl
  have e2 := e1'.out
  subst e2
  clear e1'
  obtain ⟨q0, q1, q2, q3, q4, q5, q6, q7, q8, q9, q10, q11⟩ := FF.out _ hR.1
  go_wp2_with fail
  clear q0 q1 q2 q3 q4 q5 q6 q7 q8 q9 q10 q11
  refine (HP.out _ 1 (⟨#[101, 108, 115, 101]⟩ : ByteArray) _ hW.out (by have := hlim.out; have := hSS.out.1; have := hSS.out.2; (try simp only [List.length_append, List.length_cons, List.length_nil]); omega)).mono ?_
  rintro e w3 ⟨rfl, hWn, hRn⟩
  clear p0 p1 p2 p3 p4 p5 p6 p7 p8 p9 p10 p11
  replace hP := hRn.2.2 _ _ _ (by omega) (by decide) hP
  replace hR := hR.trans hRn
  replace hW := Lib.hid hWn
  clear hRn hWn
  have p0 := hP.1.at 0 _ rfl
  have p1 := hP.1.at 1 _ rfl
  have p2 := hP.1.at 2 _ rfl
  have p3 := hP.1.at 3 _ rfl
  have p4 := hP.1.at 4 _ rfl
  have p5 := hP.1.at 5 _ rfl
  have p6 := hP.1.at 6 _ rfl
  have p7 := hP.1.at 7 _ rfl
  have p8 := hP.1.at 8 _ rfl
  have p9 := hP.1.at 9 _ rfl
  have p10 := hP.1.at 10 _ rfl
  have p11 := hP.1.at 11 _ rfl
  go_wp2_with fail
  refine (HE.out _ _ hR.1 (hT.out.step hR.1) hW.out (by have := hlim.out; have := hSS.out.1; have := hSS.out.2; (try simp only [List.length_append, List.length_cons, List.length_nil]); omega)).mono ?_
  rintro e w4 ⟨rfl, hWn, hRn⟩
  replace hWn := Lib.hid hWn
  replace hR := hR.trans hRn
  go_wp2_with fail
  go_end0
  exact ⟨rfl, by simpa using hWn.out, hR⟩
set_option maxHeartbeats 1000000 in
set_option maxRecDepth 100000 in
theorem wb_c (n : Nat) (kd : Int) (A0 : Option Addr) (c0 : Nat) (tx : List ByteArray) (tk' mt pt : Int) (A1 : Option Addr) (c1 : Nat) (nm : List ByteArray) (A2 : Option Addr) (c2 : Nat) (ks : List ByteArray) (ov : Bool) (lm : Int) (A3 : Option Addr) (c3 : Nat) (ts : List (TestN n)) (A4 : Option Addr) (c4 : Nat) (th : List (CmdN n)) (A5 : Option Addr) (c5 : Nat) (el : List (CmdN n)) (b : Nat) (l0 : List AToken) (w : World) (hW : WrAt w b l0) (hT : Tabs w b) (St Sh : List AToken) (wt wh we : Nat) (hSt : St.length + 1 ≤ 8 * wt) (hSh : Sh.length ≤ 8 * wh) (hlim : l0.length + 8 * (1 + wt + wh + we) ≤ 1073741825)
    (HT : ∀ l0 W, Below b w W → Tabs W b → WrAt W b l0 → l0.length + 8 * wt ≤ 1073741824 → Calls Tryd.prog 161 #[.pointer (some ⟨b, 0, none⟩), .agg #[.int .i64 tk', .int .i64 mt, .int .i64 pt, .slice A1 nm.length c1, .slice A2 ks.length c2, .bool ov, .int .i64 lm, .slice A3 ts.length c3]] W fun e w' => e = .returned (.tuple #[]) ∧ WrAt w' b (l0 ++ St) ∧ Wrote b W w')
    (HH : ∀ l0 W, Below b w W → Tabs W b → WrAt W b l0 → l0.length + 8 * wh + 2 ≤ 1073741824 → Calls Tryd.prog 162 #[.pointer (some ⟨b, 0, none⟩), .slice A4 th.length c4] W fun e w' => e = .returned (.tuple #[]) ∧ WrAt w' b (l0 ++ (tk 5 (⟨#[123]⟩ : ByteArray) :: (Sh ++ [tk 5 (⟨#[125]⟩ : ByteArray)]))) ∧ Wrote b W w') (hn : el.length = 1) (r5 : Und (kCmd n) w b A5 el) (hk : kindC n (el[0]'(by omega)) = 2) (Rx : List AToken) (wx : Nat) (hwx : wx ≤ we)
    (HC : ∀ cs l0 W, UndK (kCmd n) w b (el[0]'(by omega)) cs → Below b w W → Tabs W b → WrAt W b l0 → l0.length + 8 * wx ≤ 1073741825 → Calls Tryd.prog 113 #[.pointer (some ⟨b, 0, none⟩), .agg cs.toArray] W fun e w' => e = .returned (.tuple #[]) ∧ WrAt w' b (l0 ++ Rx) ∧ Wrote b W w') :
    Calls Tryd.prog 113 #[.pointer (some ⟨b, 0, none⟩), .agg #[.int .i64 kd, .slice A0 tx.length c0, .int .i64 tk', .int .i64 mt, .int .i64 pt, .slice A1 nm.length c1, .slice A2 ks.length c2, .bool ov, .int .i64 lm, .slice A3 ts.length c3, .slice A4 th.length c4, .slice A5 el.length c5]] w (fun e w' => e = .returned (.tuple #[]) ∧ WrAt w' b (l0 ++ (St ++ (tk 5 (⟨#[123]⟩ : ByteArray) :: (Sh ++ tk 5 (⟨#[125]⟩ : ByteArray) :: (tk 1 (⟨#[101, 108, 115, 105, 102]⟩ : ByteArray) :: Rx))))) ∧ Wrote b w w') := by
  have hn1 : ((el.length : Int) == 1) = true := by rw [beq_iff_eq]; omega
  have hn2 : (0 : Int) < (el.length : Int) := by omega
  skip
  obtain ⟨ad, cx, e1', hKx, hxx⟩ := r5.elem (kCmd_sz n) 0 (by omega)
  obtain ⟨X1, l1, C1, x2, x3, x4, X5, l5, C5, X6, l6, C6, x7, x8, X9, l9, C9, X10, l10, C10, X11, l11, C11, rfl⟩ := cmdN_K hKx.now
  have ez : ad.add (0 * 12) = ad := by simp [Addr.add]
  rw [ez] at hxx
  have FF := Lib.hid (fun W (h : Below b w W) => And.intro ((hxx W h).1 _ rfl) (And.intro ((hxx W h).2 1 _ (by decide) rfl) (And.intro ((hxx W h).2 2 _ (by decide) rfl) (And.intro ((hxx W h).2 3 _ (by decide) rfl) (And.intro ((hxx W h).2 4 _ (by decide) rfl) (And.intro ((hxx W h).2 5 _ (by decide) rfl) (And.intro ((hxx W h).2 6 _ (by decide) rfl) (And.intro ((hxx W h).2 7 _ (by decide) rfl) (And.intro ((hxx W h).2 8 _ (by decide) rfl) (And.intro ((hxx W h).2 9 _ (by decide) rfl) (And.intro ((hxx W h).2 10 _ (by decide) rfl) ((hxx W h).2 11 _ (by decide) rfl))))))))))))
  replace HC := Lib.hid (fun l0 W => HC _ l0 W hKx)
  generalize kindC n (el[0]'(by omega)) = x0 at *
  have hkb : (x0 == 2) = true := by rw [beq_iff_eq]; exact hk
  clear hn hxx hKx ez r5 hk
  replace e1' := Lib.hid e1'
  replace hwx := Lib.hid hwx
  replace HT := Lib.hid HT
  replace HH := Lib.hid HH
  replace hT := Lib.hid hT
  have hSS := Lib.hid (And.intro hSt hSh)
  clear hSt hSh
  have hbl := hW.lt
  have hP : BlkT (w.alloc (.cells #[.int .i64 kd, .slice A0 tx.length c0, .int .i64 tk', .int .i64 mt, .int .i64 pt, .slice A1 nm.length c1, .slice A2 ks.length c2, .bool ov, .int .i64 lm, .slice A3 ts.length c3, .slice A4 th.length c4, .slice A5 el.length c5] 109)) w.heap.size 109 [.int .i64 kd, .slice A0 tx.length c0, .int .i64 tk', .int .i64 mt, .int .i64 pt, .slice A1 nm.length c1, .slice A2 ks.length c2, .bool ov, .int .i64 lm, .slice A3 ts.length c3, .slice A4 th.length c4, .slice A5 el.length c5] := BlkT.made w _ _
  have hR : Wrote b w (w.alloc (.cells #[.int .i64 kd, .slice A0 tx.length c0, .int .i64 tk', .int .i64 mt, .int .i64 pt, .slice A1 nm.length c1, .slice A2 ks.length c2, .bool ov, .int .i64 lm, .slice A3 ts.length c3, .slice A4 th.length c4, .slice A5 el.length c5] 109)) := (Wrote.refl b w).alloc (Nat.le_of_lt hbl) _
  have HP := Lib.hid (fun l k s w h hl => put_calls b l k s w h hl)
  replace hW := Lib.hid (hW.below ((Below.refl _ _).alloc (Nat.le_refl _) (.cells #[.int .i64 kd, .slice A0 tx.length c0, .int .i64 tk', .int .i64 mt, .int .i64 pt, .slice A1 nm.length c1, .slice A2 ks.length c2, .bool ov, .int .i64 lm, .slice A3 ts.length c3, .slice A4 th.length c4, .slice A5 el.length c5] 109)))
  have p0 := hP.1.at 0 _ rfl
  have p1 := hP.1.at 1 _ rfl
  have p2 := hP.1.at 2 _ rfl
  have p3 := hP.1.at 3 _ rfl
  have p4 := hP.1.at 4 _ rfl
  have p5 := hP.1.at 5 _ rfl
  have p6 := hP.1.at 6 _ rfl
  have p7 := hP.1.at 7 _ rfl
  have p8 := hP.1.at 8 _ rfl
  have p9 := hP.1.at 9 _ rfl
  have p10 := hP.1.at 10 _ rfl
  have p11 := hP.1.at 11 _ rfl
  replace hlim := Lib.hid hlim
  go_enter Tryd.func113, Tryd.ntmps113
  go_wp2_with fail
  refine (HT.out _ _ hR.1 (hT.out.step hR.1) hW.out (by have := hlim.out; have := hSS.out.1; have := hSS.out.2; (try simp only [List.length_append, List.length_cons, List.length_nil]); omega)).mono ?_
  rintro e w1 ⟨rfl, hWn, hRn⟩
  clear p0 p1 p2 p3 p4 p5 p6 p7 p8 p9 p10 p11
  replace hP := hRn.2.2 _ _ _ (by omega) (by decide) hP
  replace hR := hR.trans hRn
  replace hW := Lib.hid hWn
  clear hRn hWn
  have p0 := hP.1.at 0 _ rfl
  have p1 := hP.1.at 1 _ rfl
  have p2 := hP.1.at 2 _ rfl
  have p3 := hP.1.at 3 _ rfl
  have p4 := hP.1.at 4 _ rfl
  have p5 := hP.1.at 5 _ rfl
  have p6 := hP.1.at 6 _ rfl
  have p7 := hP.1.at 7 _ rfl
  have p8 := hP.1.at 8 _ rfl
  have p9 := hP.1.at 9 _ rfl
  have p10 := hP.1.at 10 _ rfl
  have p11 := hP.1.at 11 _ rfl
  go_wp2_with fail
  refine (HH.out _ _ hR.1 (hT.out.step hR.1) hW.out (by have := hlim.out; have := hSS.out.1; have := hSS.out.2; (try simp only [List.length_append, List.length_cons, List.length_nil]); omega)).mono ?_
  rintro e w2 ⟨rfl, hWn, hRn⟩
  clear p0 p1 p2 p3 p4 p5 p6 p7 p8 p9 p10 p11
  replace hP := hRn.2.2 _ _ _ (by omega) (by decide) hP
  replace hR := hR.trans hRn
  replace hW := Lib.hid hWn
  clear hRn hWn
  have p0 := hP.1.at 0 _ rfl
  have p1 := hP.1.at 1 _ rfl
  have p2 := hP.1.at 2 _ rfl
  have p3 := hP.1.at 3 _ rfl
  have p4 := hP.1.at 4 _ rfl
  have p5 := hP.1.at 5 _ rfl
  have p6 := hP.1.at 6 _ rfl
  have p7 := hP.1.at 7 _ rfl
  have p8 := hP.1.at 8 _ rfl
  have p9 := hP.1.at 9 _ rfl
  have p10 := hP.1.at 10 _ rfl
  have p11 := hP.1.at 11 _ rfl
  have e2 := e1'.out
  subst e2
  clear e1'
  obtain ⟨q0, q1, q2, q3, q4, q5, q6, q7, q8, q9, q10, q11⟩ := FF.out _ hR.1
  go_wp2_with fail
  clear q0 q1 q2 q3 q4 q5 q6 q7 q8 q9 q10 q11
  refine (HP.out _ 1 (⟨#[101, 108, 115, 105, 102]⟩ : ByteArray) _ hW.out (by have := hlim.out; have := hSS.out.1; have := hSS.out.2; (try simp only [List.length_append, List.length_cons, List.length_nil]); omega)).mono ?_
  rintro e w3 ⟨rfl, hWn, hRn⟩
  clear p0 p1 p2 p3 p4 p5 p6 p7 p8 p9 p10 p11
  replace hP := hRn.2.2 _ _ _ (by omega) (by decide) hP
  replace hR := hR.trans hRn
  replace hW := Lib.hid hWn
  clear hRn hWn
  have p0 := hP.1.at 0 _ rfl
  have p1 := hP.1.at 1 _ rfl
  have p2 := hP.1.at 2 _ rfl
  have p3 := hP.1.at 3 _ rfl
  have p4 := hP.1.at 4 _ rfl
  have p5 := hP.1.at 5 _ rfl
  have p6 := hP.1.at 6 _ rfl
  have p7 := hP.1.at 7 _ rfl
  have p8 := hP.1.at 8 _ rfl
  have p9 := hP.1.at 9 _ rfl
  have p10 := hP.1.at 10 _ rfl
  have p11 := hP.1.at 11 _ rfl
  obtain ⟨q0, q1, q2, q3, q4, q5, q6, q7, q8, q9, q10, q11⟩ := FF.out _ hR.1
  go_wp2_with fail
  refine (HC.out _ _ hR.1 (hT.out.step hR.1) hW.out (by have := hlim.out; have := hSS.out.1; have := hSS.out.2; have := hwx.out; simp only [List.length_append, List.length_cons, List.length_nil]; omega)).mono ?_
  rintro e w4 ⟨rfl, hWn, hRn⟩
  replace hWn := Lib.hid hWn
  replace hR := hR.trans hRn
  go_wp2_with fail
  go_end0
  exact ⟨rfl, by simpa using hWn.out, hR⟩
end Go.Proofs.YtijdghplfhfpaaaDoor.H

/- Scripts: the writer, whole. -/
namespace Go.Proofs.YtijdghplfhfpaaaDoor.H
open Go.RowKit Go.Proofs.YtijdghplfhfpaaaDoorW.PrintWords Go.Proofs.YtijdghplfhfpaaaDoorW.PrintLast Go.Proofs.YtijdghplfhfpaaaDoor.U
set_option linter.unusedVariables false
set_option linter.unusedSimpArgs false
theorem und_cmd {n : Nat} {w : World} {b : Nat} {c : CmdF (TestF (TestN n)) (CmdN n)} {cs : List Value} (h : UndK (kCmdF (kTestF (kTest n)) (kCmd n)) w b c cs) :
    ∃ A0 c0 tcs A4 c4 A5 c5, cs = .int .i64 c.kind :: .slice A0 c.texts.length c0 :: (tcs ++ [.slice A4 c.then_.length c4, .slice A5 c.else_.length c5]) ∧ Und Kd.string w b A0 c.texts ∧ UndK (kTestF (kTest n)) w b c.test tcs ∧ Und (kCmd n) w b A4 c.then_ ∧ Und (kCmd n) w b A5 c.else_ := by
  obtain ⟨w0, h1, h2, h3⟩ := h
  obtain ⟨A0, c0, tcs, A4, c4, A5, c5, rfl, _, r0, ht, r4, r5⟩ := cmd_K h3
  exact ⟨A0, c0, tcs, A4, c4, A5, c5, rfl, ⟨w0, h1, h2, r0⟩, ⟨w0, h1, h2, ht⟩, ⟨w0, h1, h2, r4⟩, ⟨w0, h1, h2, r5⟩⟩
theorem chkC_zero {τ α : Type} {g : TestF τ → Int → Int} {kd : α → Int} {f : α → Int → Int} {c : CmdF (TestF τ) α} {dp : Int} (h : chkC g kd f c dp = 0) : 1 ≤ c.kind ∧ c.kind ≤ 10 ∧ dp ≤ 6 ∧ (c.kind = 2 → g c.test 1 = 0 ∧ errs (fun x => f x (dp + 1)) c.then_ = 0 ∧ (∀ x, elsifL kd c.else_ = some x → f x dp = 0) ∧ (elsifL kd c.else_ = none → errs (fun x => f x (dp + 1)) c.else_ = 0)) := by
  unfold chkC at h
  split at h
  · cases h
  · split at h
    · cases h
    · refine ⟨by omega, by omega, by omega, fun h2 => ?_⟩
      rw [if_pos h2] at h
      split at h
      · cases h
      · split at h
        · split at h
          · refine ⟨by assumption, by assumption, fun x hx => ?_, fun hx => ?_⟩
            · rw [hx] at h; exact h
            · rw [hx] at h; exact h
          · exact absurd h (by assumption)
        · exact absurd h (by assumption)
theorem writeBranch_step (n : Nat) (IHB : WtB n) (IHL : WtL n) : WtB (n + 1) := by
  intro c cs dp b l0 w hK hc hkd hT hW hlim
  obtain ⟨A0, c0, tcs, A4, c4, A5, c5, rfl, r0, ht, r4, r5⟩ := und_cmd hK
  obtain ⟨A1, c1, A2, c2, A3, c3, rfl, _⟩ := und_test ht
  obtain ⟨kd, tx, ⟨tk', mt, pt, nm, ks, ov, lm, ts⟩, th, el⟩ := c
  obtain ⟨k1, k2, hd, hif⟩ := chkC_zero (show chkC (checkT (n + 1)) (kindC n) (checkC n) _ dp = 0 from hc)
  have h2 : kd = 2 := hkd
  obtain ⟨v1, v2, v3, v4⟩ := hif h2
  simp only at r0 ht r4 r5 v1 v2 v3 v4 ⊢
  have hlim' : l0.length + 8 * (1 + tx.length + wtT (n + 1) ⟨tk', mt, pt, nm, ks, ov, lm, ts⟩ + (th.map (wtC n)).sum + (el.map (wtC n)).sum) ≤ 1073741825 := hlim
  have hSt := showT_len (n + 1) ⟨tk', mt, pt, nm, ks, ov, lm, ts⟩
  have hSh := flat_len (showC n) (wtC n) (showC_len n) th
  have HT := fun l0 W (hb : Below b w W) hT hW hl => writeTest_calls (n + 1) ⟨tk', mt, pt, nm, ks, ov, lm, ts⟩ [.int .i64 tk', .int .i64 mt, .int .i64 pt, .slice A1 nm.length c1, .slice A2 ks.length c2, .bool ov, .int .i64 lm, .slice A3 ts.length c3] 1 b l0 W (ht.step hb) v1 hT hW hl
  have HH := fun l0 W (hb : Below b w W) hT hW hl => IHL A4 c4 th (dp + 1) b l0 W (r4.step hb) v2 hT hW hl
  show Calls _ _ _ w fun e w' => e = .returned (.tuple #[]) ∧ WrAt w' b (l0 ++ shwC (showT (n + 1)) (kindC n) (restC n) (showC n) ⟨kd, tx, ⟨tk', mt, pt, nm, ks, ov, lm, ts⟩, th, el⟩) ∧ Wrote b w w'
  unfold shwC
  simp only
  rw [if_pos h2]
  by_cases he : el.length = 1
  · by_cases hk2 : kindC n (el[0]'(by omega)) = 2
    · rw [elsif_some he hk2]
      exact wb_c n kd A0 c0 tx tk' mt pt A1 c1 nm A2 c2 ks ov lm A3 c3 ts A4 c4 th A5 c5 el b l0 w hW hT _ _ _ _ ((el.map (wtC n)).sum) hSt hSh (by omega) HT HH he r5 hk2 _ _ (sum_mem (wtC n) el 0 (by omega))
        (fun cs l0 W hK' hb hT hW hl => IHB _ cs dp b l0 W (hK'.step hb) (v3 _ (elsif_some he hk2)) hk2 hT hW hl)
    · rw [elsif_no he hk2]
      simp only
      rw [if_pos (show 0 < el.length by omega)]
      exact wb_1 n kd A0 c0 tx tk' mt pt A1 c1 nm A2 c2 ks ov lm A3 c3 ts A4 c4 th A5 c5 el b l0 w hW hT _ _ _ _ ((el.map (wtC n)).sum) hSt hSh (by omega) HT HH _ (fun l0 W hb hT hW hl => IHL A5 c5 el (dp + 1) b l0 W (r5.step hb) (v4 (elsif_no he hk2)) hT hW hl) he r5 hk2
  · rw [elsif_not he]
    simp only
    by_cases h0 : 0 < el.length
    · rw [if_pos h0]
      exact wb_m n kd A0 c0 tx tk' mt pt A1 c1 nm A2 c2 ks ov lm A3 c3 ts A4 c4 th A5 c5 el b l0 w hW hT _ _ _ _ ((el.map (wtC n)).sum) hSt hSh (by omega) HT HH _ (fun l0 W hb hT hW hl => IHL A5 c5 el (dp + 1) b l0 W (r5.step hb) (v4 (elsif_not he)) hT hW hl) (by omega)
    · rw [if_neg h0]
      exact wb_n n kd A0 c0 tx tk' mt pt A1 c1 nm A2 c2 ks ov lm A3 c3 ts A4 c4 th A5 c5 el b l0 w hW hT _ _ _ _ ((el.map (wtC n)).sum) hSt hSh (by omega) HT HH (by omega)
theorem writeCommand_of (n : Nat) (IHB : WtB (n + 1)) : WtC (n + 1) := by
  intro c cs dp b l0 w hK hc hT hW hlim
  have hK' := hK
  obtain ⟨A0, c0, tcs, A4, c4, A5, c5, rfl, r0, ht, r4, r5⟩ := und_cmd hK
  obtain ⟨A1, c1, A2, c2, A3, c3, rfl, _⟩ := und_test ht
  obtain ⟨kd, tx, ⟨tk', mt, pt, nm, ks, ov, lm, ts⟩, th, el⟩ := c
  obtain ⟨k1, k2, hd, _⟩ := chkC_zero (show chkC (checkT (n + 1)) (kindC n) (checkC n) _ dp = 0 from hc)
  simp only at r0 ht r4 r5 k1 k2 ⊢
  have hlim' : l0.length + 8 * (1 + tx.length + wtT (n + 1) ⟨tk', mt, pt, nm, ks, ov, lm, ts⟩ + (th.map (wtC n)).sum + (el.map (wtC n)).sum) ≤ 1073741824 := hlim
  show Calls _ _ _ w fun e w' => e = .returned (.tuple #[]) ∧ WrAt w' b (l0 ++ (tk 1 (wordAt commandWords kd) :: restC (n + 1) ⟨kd, tx, ⟨tk', mt, pt, nm, ks, ov, lm, ts⟩, th, el⟩)) ∧ Wrote b w w'
  by_cases h2 : kd = 2
  · exact wc_if n kd A0 c0 tx tk' mt pt A1 c1 nm A2 c2 ks ov lm A3 c3 ts A4 c4 th A5 c5 el b l0 w hW hT (by omega) (by omega) _ (wtC (n + 1) ⟨kd, tx, ⟨tk', mt, pt, nm, ks, ov, lm, ts⟩, th, el⟩) hlim (wtC_pos _ _)
      (fun l0 W hb hT hW hl => IHB _ _ dp b l0 W (hK'.step hb) hc h2 hT hW (by have := wtC_pos (n + 1) ⟨kd, tx, ⟨tk', mt, pt, nm, ks, ov, lm, ts⟩, th, el⟩; omega))
  · show Calls _ _ _ w fun e w' => e = .returned (.tuple #[]) ∧ WrAt w' b (l0 ++ (tk 1 (wordAt commandWords kd) :: shwC (showT (n + 1)) (kindC n) (restC n) (showC n) ⟨kd, tx, ⟨tk', mt, pt, nm, ks, ov, lm, ts⟩, th, el⟩)) ∧ Wrote b w w'
    unfold shwC
    simp only
    rw [if_neg h2]
    exact wc_one n kd A0 c0 tx tk' mt pt A1 c1 nm A2 c2 ks ov lm A3 c3 ts A4 c4 th A5 c5 el b l0 w hW hT k1 k2 h2 r0 (by omega)
theorem writer_calls : ∀ n, WtB n ∧ WtC n
  | 0 => ⟨(fun x => nomatch x), (fun x => nomatch x)⟩
  | n + 1 =>
    have h := writer_calls n
    have hb := writeBranch_step n h.1 (block_of n h.2)
    ⟨hb, writeCommand_of n hb⟩
end Go.Proofs.YtijdghplfhfpaaaDoor.H

/- Scripts: has a test nothing but what it may? The reference's walk. -/
namespace Go.Proofs.YtijdghplfhfpaaaDoor.H
open Go.RowKit Go.Proofs.YtijdghplfhfpaaaDoorW.PrintWords Go.Proofs.YtijdghplfhfpaaaDoorW.PrintLast Go.Proofs.YtijdghplfhfpaaaDoor.U
set_option linter.unusedVariables false
set_option linter.unusedSimpArgs false
set_option maxHeartbeats 4000000 in
set_option maxRecDepth 100000 in
theorem tb_A {α : Type} (A1 : Option Addr) (c1 : Nat) (A2 : Option Addr) (c2 : Nat) (A3 : Option Addr) (c3 : Nat) (kd mt pt : Int) (nm ks : List ByteArray) (ov : Bool) (lm : Int) (ts : List α) (w : World) :
    Calls Tryd.prog 164 #[.agg #[.int .i64 kd, .int .i64 mt, .int .i64 pt, .slice A1 nm.length c1, .slice A2 ks.length c2, .bool ov, .int .i64 lm, .slice A3 ts.length c3], .bool false, .bool false, .bool false, .bool false, .bool false, .bool false] w fun e w' => e = .returned (.bool (decide (nm.length = 0 ∧ ks.length = 0 ∧ mt = 0 ∧ pt = 0 ∧ ov = false ∧ lm = 0 ∧ ts.length = 0))) ∧ Below w.heap.size w w' := by
  by_cases hf : nm.length = 0 ∧ ks.length = 0 ∧ mt = 0 ∧ pt = 0 ∧ ov = false ∧ lm = 0 ∧ ts.length = 0
  · rw [decide_eq_true hf]
    obtain ⟨h0, h1, h2, h3, h4, h5, h6⟩ := hf
    have hP : Blk (w.alloc (.cells #[.int .i64 kd, .int .i64 mt, .int .i64 pt, .slice A1 nm.length c1, .slice A2 ks.length c2, .bool ov, .int .i64 lm, .slice A3 ts.length c3] 107)) w.heap.size [.int .i64 kd, .int .i64 mt, .int .i64 pt, .slice A1 nm.length c1, .slice A2 ks.length c2, .bool ov, .int .i64 lm, .slice A3 ts.length c3] := Blk.made w _ _
    have p0 := hP.at 0 _ rfl
    have p1 := hP.at 1 _ rfl
    have p2 := hP.at 2 _ rfl
    have p3 := hP.at 3 _ rfl
    have p4 := hP.at 4 _ rfl
    have p5 := hP.at 5 _ rfl
    have p6 := hP.at 6 _ rfl
    have p7 := hP.at 7 _ rfl
    obtain rfl := List.length_eq_zero_iff.mp h0
    obtain rfl := List.length_eq_zero_iff.mp h1
    subst h2
    subst h3
    subst h4
    subst h5
    obtain rfl := List.length_eq_zero_iff.mp h6
    go_enter Tryd.func164, Tryd.ntmps164
    go_wp2_with fail
    go_ret
    exact ⟨rfl, (by repeat (first | exact Below.refl _ _ | apply below_alloc | apply pw_below_drewN | apply below_drew1 | (refine Below.setCell ?_ (by first | (simp; done) | (simp; omega) | omega) _) ))⟩
  · rw [decide_eq_false hf]
    replace hf := Lib.hid hf
    have hP : Blk (w.alloc (.cells #[.int .i64 kd, .int .i64 mt, .int .i64 pt, .slice A1 nm.length c1, .slice A2 ks.length c2, .bool ov, .int .i64 lm, .slice A3 ts.length c3] 107)) w.heap.size [.int .i64 kd, .int .i64 mt, .int .i64 pt, .slice A1 nm.length c1, .slice A2 ks.length c2, .bool ov, .int .i64 lm, .slice A3 ts.length c3] := Blk.made w _ _
    have p0 := hP.at 0 _ rfl
    have p1 := hP.at 1 _ rfl
    have p2 := hP.at 2 _ rfl
    have p3 := hP.at 3 _ rfl
    have p4 := hP.at 4 _ rfl
    have p5 := hP.at 5 _ rfl
    have p6 := hP.at 6 _ rfl
    have p7 := hP.at 7 _ rfl
    go_enter Tryd.func164, Tryd.ntmps164
    go_wp2_with fail
    all_goals (first | (go_ret; exact ⟨rfl, (by repeat (first | exact Below.refl _ _ | apply below_alloc | apply pw_below_drewN | apply below_drew1 | (refine Below.setCell ?_ (by first | (simp; done) | (simp; omega) | omega) _) ))⟩) | (go_ret; refine ⟨?_, (by repeat (first | exact Below.refl _ _ | apply below_alloc | apply pw_below_drewN | apply below_drew1 | (refine Below.setCell ?_ (by first | (simp; done) | (simp; omega) | omega) _) ))⟩; have h9 := hf.out; clear hf hP p0 p1 p2 p3 p4 p5 p6 p7; simp_all; done) | (exfalso; have h9 := hf.out; clear hf hP p0 p1 p2 p3 p4 p5 p6 p7; simp_all; done))
set_option maxHeartbeats 4000000 in
set_option maxRecDepth 100000 in
theorem tb_N {α : Type} (A1 : Option Addr) (c1 : Nat) (A2 : Option Addr) (c2 : Nat) (A3 : Option Addr) (c3 : Nat) (kd mt pt : Int) (nm ks : List ByteArray) (ov : Bool) (lm : Int) (ts : List α) (w : World) :
    Calls Tryd.prog 164 #[.agg #[.int .i64 kd, .int .i64 mt, .int .i64 pt, .slice A1 nm.length c1, .slice A2 ks.length c2, .bool ov, .int .i64 lm, .slice A3 ts.length c3], .bool false, .bool false, .bool false, .bool false, .bool false, .bool true] w fun e w' => e = .returned (.bool (decide (nm.length = 0 ∧ ks.length = 0 ∧ mt = 0 ∧ pt = 0 ∧ ov = false ∧ lm = 0))) ∧ Below w.heap.size w w' := by
  by_cases hf : nm.length = 0 ∧ ks.length = 0 ∧ mt = 0 ∧ pt = 0 ∧ ov = false ∧ lm = 0
  · rw [decide_eq_true hf]
    obtain ⟨h0, h1, h2, h3, h4, h5⟩ := hf
    have hP : Blk (w.alloc (.cells #[.int .i64 kd, .int .i64 mt, .int .i64 pt, .slice A1 nm.length c1, .slice A2 ks.length c2, .bool ov, .int .i64 lm, .slice A3 ts.length c3] 107)) w.heap.size [.int .i64 kd, .int .i64 mt, .int .i64 pt, .slice A1 nm.length c1, .slice A2 ks.length c2, .bool ov, .int .i64 lm, .slice A3 ts.length c3] := Blk.made w _ _
    have p0 := hP.at 0 _ rfl
    have p1 := hP.at 1 _ rfl
    have p2 := hP.at 2 _ rfl
    have p3 := hP.at 3 _ rfl
    have p4 := hP.at 4 _ rfl
    have p5 := hP.at 5 _ rfl
    have p6 := hP.at 6 _ rfl
    have p7 := hP.at 7 _ rfl
    obtain rfl := List.length_eq_zero_iff.mp h0
    obtain rfl := List.length_eq_zero_iff.mp h1
    subst h2
    subst h3
    subst h4
    subst h5
    go_enter Tryd.func164, Tryd.ntmps164
    go_wp2_with fail
    go_ret
    exact ⟨rfl, (by repeat (first | exact Below.refl _ _ | apply below_alloc | apply pw_below_drewN | apply below_drew1 | (refine Below.setCell ?_ (by first | (simp; done) | (simp; omega) | omega) _) ))⟩
  · rw [decide_eq_false hf]
    replace hf := Lib.hid hf
    have hP : Blk (w.alloc (.cells #[.int .i64 kd, .int .i64 mt, .int .i64 pt, .slice A1 nm.length c1, .slice A2 ks.length c2, .bool ov, .int .i64 lm, .slice A3 ts.length c3] 107)) w.heap.size [.int .i64 kd, .int .i64 mt, .int .i64 pt, .slice A1 nm.length c1, .slice A2 ks.length c2, .bool ov, .int .i64 lm, .slice A3 ts.length c3] := Blk.made w _ _
    have p0 := hP.at 0 _ rfl
    have p1 := hP.at 1 _ rfl
    have p2 := hP.at 2 _ rfl
    have p3 := hP.at 3 _ rfl
    have p4 := hP.at 4 _ rfl
    have p5 := hP.at 5 _ rfl
    have p6 := hP.at 6 _ rfl
    have p7 := hP.at 7 _ rfl
    go_enter Tryd.func164, Tryd.ntmps164
    go_wp2_with fail
    all_goals (first | (go_ret; exact ⟨rfl, (by repeat (first | exact Below.refl _ _ | apply below_alloc | apply pw_below_drewN | apply below_drew1 | (refine Below.setCell ?_ (by first | (simp; done) | (simp; omega) | omega) _) ))⟩) | (go_ret; refine ⟨?_, (by repeat (first | exact Below.refl _ _ | apply below_alloc | apply pw_below_drewN | apply below_drew1 | (refine Below.setCell ?_ (by first | (simp; done) | (simp; omega) | omega) _) ))⟩; have h9 := hf.out; clear hf hP p0 p1 p2 p3 p4 p5 p6 p7; simp_all; done) | (exfalso; have h9 := hf.out; clear hf hP p0 p1 p2 p3 p4 p5 p6 p7; simp_all; done))
set_option maxHeartbeats 4000000 in
set_option maxRecDepth 100000 in
theorem tb_H {α : Type} (A1 : Option Addr) (c1 : Nat) (A2 : Option Addr) (c2 : Nat) (A3 : Option Addr) (c3 : Nat) (kd mt pt : Int) (nm ks : List ByteArray) (ov : Bool) (lm : Int) (ts : List α) (w : World) :
    Calls Tryd.prog 164 #[.agg #[.int .i64 kd, .int .i64 mt, .int .i64 pt, .slice A1 nm.length c1, .slice A2 ks.length c2, .bool ov, .int .i64 lm, .slice A3 ts.length c3], .bool true, .bool true, .bool true, .bool false, .bool false, .bool false] w fun e w' => e = .returned (.bool (decide (pt = 0 ∧ ov = false ∧ lm = 0 ∧ ts.length = 0))) ∧ Below w.heap.size w w' := by
  by_cases hf : pt = 0 ∧ ov = false ∧ lm = 0 ∧ ts.length = 0
  · rw [decide_eq_true hf]
    obtain ⟨h0, h1, h2, h3⟩ := hf
    have hP : Blk (w.alloc (.cells #[.int .i64 kd, .int .i64 mt, .int .i64 pt, .slice A1 nm.length c1, .slice A2 ks.length c2, .bool ov, .int .i64 lm, .slice A3 ts.length c3] 107)) w.heap.size [.int .i64 kd, .int .i64 mt, .int .i64 pt, .slice A1 nm.length c1, .slice A2 ks.length c2, .bool ov, .int .i64 lm, .slice A3 ts.length c3] := Blk.made w _ _
    have p0 := hP.at 0 _ rfl
    have p1 := hP.at 1 _ rfl
    have p2 := hP.at 2 _ rfl
    have p3 := hP.at 3 _ rfl
    have p4 := hP.at 4 _ rfl
    have p5 := hP.at 5 _ rfl
    have p6 := hP.at 6 _ rfl
    have p7 := hP.at 7 _ rfl
    subst h0
    subst h1
    subst h2
    obtain rfl := List.length_eq_zero_iff.mp h3
    go_enter Tryd.func164, Tryd.ntmps164
    go_wp2_with fail
    go_ret
    exact ⟨rfl, (by repeat (first | exact Below.refl _ _ | apply below_alloc | apply pw_below_drewN | apply below_drew1 | (refine Below.setCell ?_ (by first | (simp; done) | (simp; omega) | omega) _) ))⟩
  · rw [decide_eq_false hf]
    replace hf := Lib.hid hf
    have hP : Blk (w.alloc (.cells #[.int .i64 kd, .int .i64 mt, .int .i64 pt, .slice A1 nm.length c1, .slice A2 ks.length c2, .bool ov, .int .i64 lm, .slice A3 ts.length c3] 107)) w.heap.size [.int .i64 kd, .int .i64 mt, .int .i64 pt, .slice A1 nm.length c1, .slice A2 ks.length c2, .bool ov, .int .i64 lm, .slice A3 ts.length c3] := Blk.made w _ _
    have p0 := hP.at 0 _ rfl
    have p1 := hP.at 1 _ rfl
    have p2 := hP.at 2 _ rfl
    have p3 := hP.at 3 _ rfl
    have p4 := hP.at 4 _ rfl
    have p5 := hP.at 5 _ rfl
    have p6 := hP.at 6 _ rfl
    have p7 := hP.at 7 _ rfl
    go_enter Tryd.func164, Tryd.ntmps164
    go_wp2_with fail
    all_goals (first | (go_ret; exact ⟨rfl, (by repeat (first | exact Below.refl _ _ | apply below_alloc | apply pw_below_drewN | apply below_drew1 | (refine Below.setCell ?_ (by first | (simp; done) | (simp; omega) | omega) _) ))⟩) | (go_ret; refine ⟨?_, (by repeat (first | exact Below.refl _ _ | apply below_alloc | apply pw_below_drewN | apply below_drew1 | (refine Below.setCell ?_ (by first | (simp; done) | (simp; omega) | omega) _) ))⟩; have h9 := hf.out; clear hf hP p0 p1 p2 p3 p4 p5 p6 p7; simp_all; done) | (exfalso; have h9 := hf.out; clear hf hP p0 p1 p2 p3 p4 p5 p6 p7; simp_all; done))
set_option maxHeartbeats 4000000 in
set_option maxRecDepth 100000 in
theorem tb_D {α : Type} (A1 : Option Addr) (c1 : Nat) (A2 : Option Addr) (c2 : Nat) (A3 : Option Addr) (c3 : Nat) (kd mt pt : Int) (nm ks : List ByteArray) (ov : Bool) (lm : Int) (ts : List α) (w : World) :
    Calls Tryd.prog 164 #[.agg #[.int .i64 kd, .int .i64 mt, .int .i64 pt, .slice A1 nm.length c1, .slice A2 ks.length c2, .bool ov, .int .i64 lm, .slice A3 ts.length c3], .bool true, .bool true, .bool true, .bool true, .bool false, .bool false] w fun e w' => e = .returned (.bool (decide (ov = false ∧ lm = 0 ∧ ts.length = 0))) ∧ Below w.heap.size w w' := by
  by_cases hf : ov = false ∧ lm = 0 ∧ ts.length = 0
  · rw [decide_eq_true hf]
    obtain ⟨h0, h1, h2⟩ := hf
    have hP : Blk (w.alloc (.cells #[.int .i64 kd, .int .i64 mt, .int .i64 pt, .slice A1 nm.length c1, .slice A2 ks.length c2, .bool ov, .int .i64 lm, .slice A3 ts.length c3] 107)) w.heap.size [.int .i64 kd, .int .i64 mt, .int .i64 pt, .slice A1 nm.length c1, .slice A2 ks.length c2, .bool ov, .int .i64 lm, .slice A3 ts.length c3] := Blk.made w _ _
    have p0 := hP.at 0 _ rfl
    have p1 := hP.at 1 _ rfl
    have p2 := hP.at 2 _ rfl
    have p3 := hP.at 3 _ rfl
    have p4 := hP.at 4 _ rfl
    have p5 := hP.at 5 _ rfl
    have p6 := hP.at 6 _ rfl
    have p7 := hP.at 7 _ rfl
    subst h0
    subst h1
    obtain rfl := List.length_eq_zero_iff.mp h2
    go_enter Tryd.func164, Tryd.ntmps164
    go_wp2_with fail
    go_ret
    exact ⟨rfl, (by repeat (first | exact Below.refl _ _ | apply below_alloc | apply pw_below_drewN | apply below_drew1 | (refine Below.setCell ?_ (by first | (simp; done) | (simp; omega) | omega) _) ))⟩
  · rw [decide_eq_false hf]
    replace hf := Lib.hid hf
    have hP : Blk (w.alloc (.cells #[.int .i64 kd, .int .i64 mt, .int .i64 pt, .slice A1 nm.length c1, .slice A2 ks.length c2, .bool ov, .int .i64 lm, .slice A3 ts.length c3] 107)) w.heap.size [.int .i64 kd, .int .i64 mt, .int .i64 pt, .slice A1 nm.length c1, .slice A2 ks.length c2, .bool ov, .int .i64 lm, .slice A3 ts.length c3] := Blk.made w _ _
    have p0 := hP.at 0 _ rfl
    have p1 := hP.at 1 _ rfl
    have p2 := hP.at 2 _ rfl
    have p3 := hP.at 3 _ rfl
    have p4 := hP.at 4 _ rfl
    have p5 := hP.at 5 _ rfl
    have p6 := hP.at 6 _ rfl
    have p7 := hP.at 7 _ rfl
    go_enter Tryd.func164, Tryd.ntmps164
    go_wp2_with fail
    all_goals (first | (go_ret; exact ⟨rfl, (by repeat (first | exact Below.refl _ _ | apply below_alloc | apply pw_below_drewN | apply below_drew1 | (refine Below.setCell ?_ (by first | (simp; done) | (simp; omega) | omega) _) ))⟩) | (go_ret; refine ⟨?_, (by repeat (first | exact Below.refl _ _ | apply below_alloc | apply pw_below_drewN | apply below_drew1 | (refine Below.setCell ?_ (by first | (simp; done) | (simp; omega) | omega) _) ))⟩; have h9 := hf.out; clear hf hP p0 p1 p2 p3 p4 p5 p6 p7; simp_all; done) | (exfalso; have h9 := hf.out; clear hf hP p0 p1 p2 p3 p4 p5 p6 p7; simp_all; done))
set_option maxHeartbeats 4000000 in
set_option maxRecDepth 100000 in
theorem tb_E {α : Type} (A1 : Option Addr) (c1 : Nat) (A2 : Option Addr) (c2 : Nat) (A3 : Option Addr) (c3 : Nat) (kd mt pt : Int) (nm ks : List ByteArray) (ov : Bool) (lm : Int) (ts : List α) (w : World) :
    Calls Tryd.prog 164 #[.agg #[.int .i64 kd, .int .i64 mt, .int .i64 pt, .slice A1 nm.length c1, .slice A2 ks.length c2, .bool ov, .int .i64 lm, .slice A3 ts.length c3], .bool true, .bool false, .bool false, .bool false, .bool false, .bool false] w fun e w' => e = .returned (.bool (decide (ks.length = 0 ∧ mt = 0 ∧ pt = 0 ∧ ov = false ∧ lm = 0 ∧ ts.length = 0))) ∧ Below w.heap.size w w' := by
  by_cases hf : ks.length = 0 ∧ mt = 0 ∧ pt = 0 ∧ ov = false ∧ lm = 0 ∧ ts.length = 0
  · rw [decide_eq_true hf]
    obtain ⟨h0, h1, h2, h3, h4, h5⟩ := hf
    have hP : Blk (w.alloc (.cells #[.int .i64 kd, .int .i64 mt, .int .i64 pt, .slice A1 nm.length c1, .slice A2 ks.length c2, .bool ov, .int .i64 lm, .slice A3 ts.length c3] 107)) w.heap.size [.int .i64 kd, .int .i64 mt, .int .i64 pt, .slice A1 nm.length c1, .slice A2 ks.length c2, .bool ov, .int .i64 lm, .slice A3 ts.length c3] := Blk.made w _ _
    have p0 := hP.at 0 _ rfl
    have p1 := hP.at 1 _ rfl
    have p2 := hP.at 2 _ rfl
    have p3 := hP.at 3 _ rfl
    have p4 := hP.at 4 _ rfl
    have p5 := hP.at 5 _ rfl
    have p6 := hP.at 6 _ rfl
    have p7 := hP.at 7 _ rfl
    obtain rfl := List.length_eq_zero_iff.mp h0
    subst h1
    subst h2
    subst h3
    subst h4
    obtain rfl := List.length_eq_zero_iff.mp h5
    go_enter Tryd.func164, Tryd.ntmps164
    go_wp2_with fail
    go_ret
    exact ⟨rfl, (by repeat (first | exact Below.refl _ _ | apply below_alloc | apply pw_below_drewN | apply below_drew1 | (refine Below.setCell ?_ (by first | (simp; done) | (simp; omega) | omega) _) ))⟩
  · rw [decide_eq_false hf]
    replace hf := Lib.hid hf
    have hP : Blk (w.alloc (.cells #[.int .i64 kd, .int .i64 mt, .int .i64 pt, .slice A1 nm.length c1, .slice A2 ks.length c2, .bool ov, .int .i64 lm, .slice A3 ts.length c3] 107)) w.heap.size [.int .i64 kd, .int .i64 mt, .int .i64 pt, .slice A1 nm.length c1, .slice A2 ks.length c2, .bool ov, .int .i64 lm, .slice A3 ts.length c3] := Blk.made w _ _
    have p0 := hP.at 0 _ rfl
    have p1 := hP.at 1 _ rfl
    have p2 := hP.at 2 _ rfl
    have p3 := hP.at 3 _ rfl
    have p4 := hP.at 4 _ rfl
    have p5 := hP.at 5 _ rfl
    have p6 := hP.at 6 _ rfl
    have p7 := hP.at 7 _ rfl
    go_enter Tryd.func164, Tryd.ntmps164
    go_wp2_with fail
    all_goals (first | (go_ret; exact ⟨rfl, (by repeat (first | exact Below.refl _ _ | apply below_alloc | apply pw_below_drewN | apply below_drew1 | (refine Below.setCell ?_ (by first | (simp; done) | (simp; omega) | omega) _) ))⟩) | (go_ret; refine ⟨?_, (by repeat (first | exact Below.refl _ _ | apply below_alloc | apply pw_below_drewN | apply below_drew1 | (refine Below.setCell ?_ (by first | (simp; done) | (simp; omega) | omega) _) ))⟩; have h9 := hf.out; clear hf hP p0 p1 p2 p3 p4 p5 p6 p7; simp_all; done) | (exfalso; have h9 := hf.out; clear hf hP p0 p1 p2 p3 p4 p5 p6 p7; simp_all; done))
set_option maxHeartbeats 4000000 in
set_option maxRecDepth 100000 in
theorem tb_S {α : Type} (A1 : Option Addr) (c1 : Nat) (A2 : Option Addr) (c2 : Nat) (A3 : Option Addr) (c3 : Nat) (kd mt pt : Int) (nm ks : List ByteArray) (ov : Bool) (lm : Int) (ts : List α) (w : World) :
    Calls Tryd.prog 164 #[.agg #[.int .i64 kd, .int .i64 mt, .int .i64 pt, .slice A1 nm.length c1, .slice A2 ks.length c2, .bool ov, .int .i64 lm, .slice A3 ts.length c3], .bool false, .bool false, .bool false, .bool false, .bool true, .bool false] w fun e w' => e = .returned (.bool (decide (nm.length = 0 ∧ ks.length = 0 ∧ mt = 0 ∧ pt = 0 ∧ ts.length = 0))) ∧ Below w.heap.size w w' := by
  by_cases hf : nm.length = 0 ∧ ks.length = 0 ∧ mt = 0 ∧ pt = 0 ∧ ts.length = 0
  · rw [decide_eq_true hf]
    obtain ⟨h0, h1, h2, h3, h4⟩ := hf
    have hP : Blk (w.alloc (.cells #[.int .i64 kd, .int .i64 mt, .int .i64 pt, .slice A1 nm.length c1, .slice A2 ks.length c2, .bool ov, .int .i64 lm, .slice A3 ts.length c3] 107)) w.heap.size [.int .i64 kd, .int .i64 mt, .int .i64 pt, .slice A1 nm.length c1, .slice A2 ks.length c2, .bool ov, .int .i64 lm, .slice A3 ts.length c3] := Blk.made w _ _
    have p0 := hP.at 0 _ rfl
    have p1 := hP.at 1 _ rfl
    have p2 := hP.at 2 _ rfl
    have p3 := hP.at 3 _ rfl
    have p4 := hP.at 4 _ rfl
    have p5 := hP.at 5 _ rfl
    have p6 := hP.at 6 _ rfl
    have p7 := hP.at 7 _ rfl
    obtain rfl := List.length_eq_zero_iff.mp h0
    obtain rfl := List.length_eq_zero_iff.mp h1
    subst h2
    subst h3
    obtain rfl := List.length_eq_zero_iff.mp h4
    go_enter Tryd.func164, Tryd.ntmps164
    go_wp2_with fail
    go_ret
    exact ⟨rfl, (by repeat (first | exact Below.refl _ _ | apply below_alloc | apply pw_below_drewN | apply below_drew1 | (refine Below.setCell ?_ (by first | (simp; done) | (simp; omega) | omega) _) ))⟩
  · rw [decide_eq_false hf]
    replace hf := Lib.hid hf
    have hP : Blk (w.alloc (.cells #[.int .i64 kd, .int .i64 mt, .int .i64 pt, .slice A1 nm.length c1, .slice A2 ks.length c2, .bool ov, .int .i64 lm, .slice A3 ts.length c3] 107)) w.heap.size [.int .i64 kd, .int .i64 mt, .int .i64 pt, .slice A1 nm.length c1, .slice A2 ks.length c2, .bool ov, .int .i64 lm, .slice A3 ts.length c3] := Blk.made w _ _
    have p0 := hP.at 0 _ rfl
    have p1 := hP.at 1 _ rfl
    have p2 := hP.at 2 _ rfl
    have p3 := hP.at 3 _ rfl
    have p4 := hP.at 4 _ rfl
    have p5 := hP.at 5 _ rfl
    have p6 := hP.at 6 _ rfl
    have p7 := hP.at 7 _ rfl
    go_enter Tryd.func164, Tryd.ntmps164
    go_wp2_with fail
    all_goals (first | (go_ret; exact ⟨rfl, (by repeat (first | exact Below.refl _ _ | apply below_alloc | apply pw_below_drewN | apply below_drew1 | (refine Below.setCell ?_ (by first | (simp; done) | (simp; omega) | omega) _) ))⟩) | (go_ret; refine ⟨?_, (by repeat (first | exact Below.refl _ _ | apply below_alloc | apply pw_below_drewN | apply below_drew1 | (refine Below.setCell ?_ (by first | (simp; done) | (simp; omega) | omega) _) ))⟩; have h9 := hf.out; clear hf hP p0 p1 p2 p3 p4 p5 p6 p7; simp_all; done) | (exfalso; have h9 := hf.out; clear hf hP p0 p1 p2 p3 p4 p5 p6 p7; simp_all; done))
end Go.Proofs.YtijdghplfhfpaaaDoor.H
