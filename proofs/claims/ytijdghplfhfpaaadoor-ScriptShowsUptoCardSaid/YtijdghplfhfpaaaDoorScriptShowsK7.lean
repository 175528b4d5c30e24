/- The claim ScriptShowsUptoCardSaid, part 7 of 8. -/
import Derived.Test.YtijdghplfhfpaaaDoorScriptShowsK6
import Derived.Test.YtijdghplfhfpaaaDoorScriptShowsK5
import Derived.Test.YtijdghplfhfpaaaDoorScriptShowsK2
import Derived.Deep.QuietTactic
import Derived.BigQuiet
import Derived.Test.YtijdghplfhfpaaaDoorScriptShowsK1
/- Scripts: the reference's commands shown: an if. -/
namespace Go.Proofs.YtijdghplfhfpaaaDoor.H
open Go.RowKit Go.Proofs.YtijdghplfhfpaaaDoorW.PrintWords Go.Proofs.YtijdghplfhfpaaaDoorW.PrintLast Go.Proofs.YtijdghplfhfpaaaDoor.U
set_option linter.unusedVariables false
set_option linter.unusedSimpArgs false
set_option maxHeartbeats 1000000 in
set_option maxRecDepth 100000 in
theorem rs_n (n : Nat) (kd : Int) (A0 : Option Addr) (c0 : Nat) (tx : List ByteArray) (tk' mt pt : Int) (A1 : Option Addr) (c1 : Nat) (nm : List ByteArray) (A2 : Option Addr) (c2 : Nat) (ks : List ByteArray) (ov : Bool) (lm : Int) (A3 : Option Addr) (c3 : Nat) (ts : List (TestN n)) (A4 : Option Addr) (c4 : Nat) (th : List (CmdN n)) (A5 : Option Addr) (c5 : Nat) (el : List (CmdN n)) (w : World) (St Sh Se : List AToken) (h2 : kd = 2) (hlim : St.length + Sh.length + Se.length ≤ 33554432)
    (HT : ∀ W, Below w.heap.size w W → Calls Tryd.prog 168 #[.agg #[.int .i64 tk', .int .i64 mt, .int .i64 pt, .slice A1 nm.length c1, .slice A2 ks.length c2, .bool ov, .int .i64 lm, .slice A3 ts.length c3]] W fun e w' => ∃ v, e = .returned v ∧ Kd.R kAToken 119 w' W.heap.size (fun _ => True) v St ∧ Below W.heap.size W w')
    (HH : ∀ W, Below w.heap.size w W → Calls Tryd.prog 74 #[.slice A4 th.length c4] W fun e w' => ∃ v, e = .returned v ∧ Kd.R kAToken 119 w' W.heap.size (fun _ => True) v Sh ∧ Below W.heap.size W w')
    (bs : Bool) (HS : ∀ W, Below w.heap.size w W → Calls Tryd.prog 166 #[.agg #[.int .i64 kd, .slice A0 tx.length c0, .int .i64 tk', .int .i64 mt, .int .i64 pt, .slice A1 nm.length c1, .slice A2 ks.length c2, .bool ov, .int .i64 lm, .slice A3 ts.length c3, .slice A4 th.length c4, .slice A5 el.length c5]] W fun e w2 => e = .returned (.bool bs) ∧ Below W.heap.size W w2) (hbs : bs = false) (hn : el.length = 0) : Calls Tryd.prog 118 #[.agg #[.int .i64 kd, .slice A0 tx.length c0, .int .i64 tk', .int .i64 mt, .int .i64 pt, .slice A1 nm.length c1, .slice A2 ks.length c2, .bool ov, .int .i64 lm, .slice A3 ts.length c3, .slice A4 th.length c4, .slice A5 el.length c5]] w fun e w' => ∃ v, e = .returned v ∧ Kd.R kAToken 119 w' w.heap.size (fun _ => True) v (St ++ tk 5 (⟨#[123]⟩ : ByteArray) :: (Sh ++ [tk 5 (⟨#[125]⟩ : ByteArray)])) ∧ Below w.heap.size w w' := by
  have hn2 : ¬ (0 : Int) < (el.length : Int) := by omega
  have hn3 : ¬ 0 < el.length := by omega
  subst hbs
  clear hn
  have b2 : (kd != 2) = false := bne_eq_false_iff_eq.mpr h2
  clear h2
  replace HT := Lib.hid HT
  replace HH := Lib.hid HH
  replace HS := Lib.hid HS
  have HK := Lib.hid (fun k s w => tok_calls k s w)
  have hP : BlkT (w.alloc (.cells #[.int .i64 kd, .slice A0 tx.length c0, .int .i64 tk', .int .i64 mt, .int .i64 pt, .slice A1 nm.length c1, .slice A2 ks.length c2, .bool ov, .int .i64 lm, .slice A3 ts.length c3, .slice A4 th.length c4, .slice A5 el.length c5] 109)) w.heap.size 109 [.int .i64 kd, .slice A0 tx.length c0, .int .i64 tk', .int .i64 mt, .int .i64 pt, .slice A1 nm.length c1, .slice A2 ks.length c2, .bool ov, .int .i64 lm, .slice A3 ts.length c3, .slice A4 th.length c4, .slice A5 el.length c5] := BlkT.made w _ _
  have hB : Below w.heap.size w (w.alloc (.cells #[.int .i64 kd, .slice A0 tx.length c0, .int .i64 tk', .int .i64 mt, .int .i64 pt, .slice A1 nm.length c1, .slice A2 ks.length c2, .bool ov, .int .i64 lm, .slice A3 ts.length c3, .slice A4 th.length c4, .slice A5 el.length c5] 109)) := (Below.refl _ _).alloc (Nat.le_refl _) _
  have hR : Kd.R kAToken 119 (w.alloc (.cells #[.int .i64 kd, .slice A0 tx.length c0, .int .i64 tk', .int .i64 mt, .int .i64 pt, .slice A1 nm.length c1, .slice A2 ks.length c2, .bool ov, .int .i64 lm, .slice A3 ts.length c3, .slice A4 th.length c4, .slice A5 el.length c5] 109)) w.heap.size (fun _ => True) (.slice none 0 0) [] := Kd.R_nil _ _ _ _ _
  replace hlim := Lib.hid hlim
  have p0 := hP.1.at 0 _ rfl
  have p1 := hP.1.at 1 _ rfl
  have p2 := hP.1.at 2 _ rfl
  have p3 := hP.1.at 3 _ rfl
  have p4 := hP.1.at 4 _ rfl
  have p5 := hP.1.at 5 _ rfl
  have p6 := hP.1.at 6 _ rfl
  have p7 := hP.1.at 7 _ rfl
  have p8 := hP.1.at 8 _ rfl
  have p9 := hP.1.at 9 _ rfl
  have p10 := hP.1.at 10 _ rfl
  have p11 := hP.1.at 11 _ rfl
  go_enter Tryd.func118, Tryd.ntmps118
  go_wp2_with fail
  refine (HT.out _ hB).mono ?_
  rintro e wa ⟨vL, rfl, hRL, hba⟩
  obtain ⟨AL, cL, rfl, hcL, hCL⟩ := C_of hRL
  replace hP := hP.below hba hP.1.lt
  replace hR := Kd.R_below hR hba
  replace hB := hB.trans (hba.mono hB.size)
  clear hba hRL p0 p1 p2 p3 p4 p5 p6 p7 p8 p9 p10 p11
  have hzB := hB.size
  go_wp2_with (at_builtin; refine rows_list rowAToken w.heap.size rfl _ _ rfl (.slice none 0 0) [] St AL cL (by first | rfl | (simp [Act.eval]; done)) (by first | rfl | (simp [Act.eval]; done)) hR hCL (by omega) (by have := hlim.out; (try simp only [List.length_append, List.length_cons, List.length_nil]); omega) ?_)
  intro va wb hRn hbn hgn
  replace hP := hP.row hR hgn (by decide)
  replace hR : Kd.R kAToken 119 wb w.heap.size (fun _ => True) va St := by simpa using hRn
  replace hB := hB.trans hbn
  clear hRn hbn hgn hzB hCL hcL
  have p0 := hP.1.at 0 _ rfl
  have p1 := hP.1.at 1 _ rfl
  have p2 := hP.1.at 2 _ rfl
  have p3 := hP.1.at 3 _ rfl
  have p4 := hP.1.at 4 _ rfl
  have p5 := hP.1.at 5 _ rfl
  have p6 := hP.1.at 6 _ rfl
  have p7 := hP.1.at 7 _ rfl
  have p8 := hP.1.at 8 _ rfl
  have p9 := hP.1.at 9 _ rfl
  have p10 := hP.1.at 10 _ rfl
  have p11 := hP.1.at 11 _ rfl
  go_wp2_with fail
  skip
  refine (HK.out 5 (⟨#[123]⟩ : ByteArray) _).mono ?_
  rintro e wc ⟨rfl, hba⟩
  replace hP := hP.below hba hP.1.lt
  replace hR := Kd.R_below hR hba
  replace hB := hB.trans (hba.mono hB.size)
  clear hba p0 p1 p2 p3 p4 p5 p6 p7 p8 p9 p10 p11
  have hzB := hB.size
  go_wp2_with (at_builtin; refine snoc_list rowAToken w.heap.size rfl _ _ rfl va St (tk 5 (⟨#[123]⟩ : ByteArray)) [.int .i64 5, .string (⟨#[123]⟩ : ByteArray), .int .i64 0] (by first | rfl | (simp [Act.eval]; done)) (by first | rfl | (simp [Act.eval]; done)) rfl hR (by omega) (by have := hlim.out; (try simp only [List.length_append, List.length_cons, List.length_nil]); omega) ?_)
  intro vc wd hRn hbn hgn
  replace hP := hP.row hR hgn (by decide)
  replace hR : Kd.R kAToken 119 wd w.heap.size (fun _ => True) vc (St ++ [tk 5 (⟨#[123]⟩ : ByteArray)]) := by simpa using hRn
  replace hB := hB.trans hbn
  clear hRn hbn hgn hzB
  have p0 := hP.1.at 0 _ rfl
  have p1 := hP.1.at 1 _ rfl
  have p2 := hP.1.at 2 _ rfl
  have p3 := hP.1.at 3 _ rfl
  have p4 := hP.1.at 4 _ rfl
  have p5 := hP.1.at 5 _ rfl
  have p6 := hP.1.at 6 _ rfl
  have p7 := hP.1.at 7 _ rfl
  have p8 := hP.1.at 8 _ rfl
  have p9 := hP.1.at 9 _ rfl
  have p10 := hP.1.at 10 _ rfl
  have p11 := hP.1.at 11 _ rfl
  go_wp2_with fail
  refine (HH.out _ hB).mono ?_
  rintro e we ⟨vL, rfl, hRL, hba⟩
  obtain ⟨AL, cL, rfl, hcL, hCL⟩ := C_of hRL
  replace hP := hP.below hba hP.1.lt
  replace hR := Kd.R_below hR hba
  replace hB := hB.trans (hba.mono hB.size)
  clear hba hRL p0 p1 p2 p3 p4 p5 p6 p7 p8 p9 p10 p11
  have hzB := hB.size
  go_wp2_with (at_builtin; refine rows_list rowAToken w.heap.size rfl _ _ rfl vc (St ++ [tk 5 (⟨#[123]⟩ : ByteArray)]) Sh AL cL (by first | rfl | (simp [Act.eval]; done)) (by first | rfl | (simp [Act.eval]; done)) hR hCL (by omega) (by have := hlim.out; (try simp only [List.length_append, List.length_cons, List.length_nil]); omega) ?_)
  intro ve wf hRn hbn hgn
  replace hP := hP.row hR hgn (by decide)
  replace hR : Kd.R kAToken 119 wf w.heap.size (fun _ => True) ve (St ++ tk 5 (⟨#[123]⟩ : ByteArray) :: Sh) := by simpa using hRn
  replace hB := hB.trans hbn
  clear hRn hbn hgn hzB hCL hcL
  have p0 := hP.1.at 0 _ rfl
  have p1 := hP.1.at 1 _ rfl
  have p2 := hP.1.at 2 _ rfl
  have p3 := hP.1.at 3 _ rfl
  have p4 := hP.1.at 4 _ rfl
  have p5 := hP.1.at 5 _ rfl
  have p6 := hP.1.at 6 _ rfl
  have p7 := hP.1.at 7 _ rfl
  have p8 := hP.1.at 8 _ rfl
  have p9 := hP.1.at 9 _ rfl
  have p10 := hP.1.at 10 _ rfl
  have p11 := hP.1.at 11 _ rfl
  go_wp2_with fail
  skip
  refine (HK.out 5 (⟨#[125]⟩ : ByteArray) _).mono ?_
  rintro e wg ⟨rfl, hba⟩
  replace hP := hP.below hba hP.1.lt
  replace hR := Kd.R_below hR hba
  replace hB := hB.trans (hba.mono hB.size)
  clear hba p0 p1 p2 p3 p4 p5 p6 p7 p8 p9 p10 p11
  have hzB := hB.size
  go_wp2_with (at_builtin; refine snoc_list rowAToken w.heap.size rfl _ _ rfl ve (St ++ tk 5 (⟨#[123]⟩ : ByteArray) :: Sh) (tk 5 (⟨#[125]⟩ : ByteArray)) [.int .i64 5, .string (⟨#[125]⟩ : ByteArray), .int .i64 0] (by first | rfl | (simp [Act.eval]; done)) (by first | rfl | (simp [Act.eval]; done)) rfl hR (by omega) (by have := hlim.out; (try simp only [List.length_append, List.length_cons, List.length_nil]); omega) ?_)
  intro vg wh hRn hbn hgn
  replace hP := hP.row hR hgn (by decide)
  replace hR : Kd.R kAToken 119 wh w.heap.size (fun _ => True) vg (St ++ tk 5 (⟨#[123]⟩ : ByteArray) :: (Sh ++ [tk 5 (⟨#[125]⟩ : ByteArray)])) := by simpa using hRn
  replace hB := hB.trans hbn
  clear hRn hbn hgn hzB
  have p0 := hP.1.at 0 _ rfl
  have p1 := hP.1.at 1 _ rfl
  have p2 := hP.1.at 2 _ rfl
  have p3 := hP.1.at 3 _ rfl
  have p4 := hP.1.at 4 _ rfl
  have p5 := hP.1.at 5 _ rfl
  have p6 := hP.1.at 6 _ rfl
  have p7 := hP.1.at 7 _ rfl
  have p8 := hP.1.at 8 _ rfl
  have p9 := hP.1.at 9 _ rfl
  have p10 := hP.1.at 10 _ rfl
  have p11 := hP.1.at 11 _ rfl
  go_wp2_with fail
  refine (HS.out _ hB).mono ?_
  rintro e wi ⟨rfl, hbi⟩
  replace hP := hP.below hbi hP.1.lt
  replace hR := Kd.R_below hR hbi
  replace hB := hB.trans (hbi.mono hB.size)
  clear p0 p1 p2 p3 p4 p5 p6 p7 p8 p9 p10 p11
  clear hbi
  have p0 := hP.1.at 0 _ rfl
  have p1 := hP.1.at 1 _ rfl
  have p2 := hP.1.at 2 _ rfl
  have p3 := hP.1.at 3 _ rfl
  have p4 := hP.1.at 4 _ rfl
  have p5 := hP.1.at 5 _ rfl
  have p6 := hP.1.at 6 _ rfl
  have p7 := hP.1.at 7 _ rfl
  have p8 := hP.1.at 8 _ rfl
  have p9 := hP.1.at 9 _ rfl
  have p10 := hP.1.at 10 _ rfl
  have p11 := hP.1.at 11 _ rfl
  go_wp2_with fail
  go_ret
  exact ⟨_, rfl, hR, hB⟩
set_option maxHeartbeats 1000000 in
set_option maxRecDepth 100000 in
theorem rs_m (n : Nat) (kd : Int) (A0 : Option Addr) (c0 : Nat) (tx : List ByteArray) (tk' mt pt : Int) (A1 : Option Addr) (c1 : Nat) (nm : List ByteArray) (A2 : Option Addr) (c2 : Nat) (ks : List ByteArray) (ov : Bool) (lm : Int) (A3 : Option Addr) (c3 : Nat) (ts : List (TestN n)) (A4 : Option Addr) (c4 : Nat) (th : List (CmdN n)) (A5 : Option Addr) (c5 : Nat) (el : List (CmdN n)) (w : World) (St Sh Se : List AToken) (h2 : kd = 2) (hlim : St.length + Sh.length + Se.length ≤ 33554432)
    (HT : ∀ W, Below w.heap.size w W → Calls Tryd.prog 168 #[.agg #[.int .i64 tk', .int .i64 mt, .int .i64 pt, .slice A1 nm.length c1, .slice A2 ks.length c2, .bool ov, .int .i64 lm, .slice A3 ts.length c3]] W fun e w' => ∃ v, e = .returned v ∧ Kd.R kAToken 119 w' W.heap.size (fun _ => True) v St ∧ Below W.heap.size W w')
    (HH : ∀ W, Below w.heap.size w W → Calls Tryd.prog 74 #[.slice A4 th.length c4] W fun e w' => ∃ v, e = .returned v ∧ Kd.R kAToken 119 w' W.heap.size (fun _ => True) v Sh ∧ Below W.heap.size W w')
    (bs : Bool) (HS : ∀ W, Below w.heap.size w W → Calls Tryd.prog 166 #[.agg #[.int .i64 kd, .slice A0 tx.length c0, .int .i64 tk', .int .i64 mt, .int .i64 pt, .slice A1 nm.length c1, .slice A2 ks.length c2, .bool ov, .int .i64 lm, .slice A3 ts.length c3, .slice A4 th.length c4, .slice A5 el.length c5]] W fun e w2 => e = .returned (.bool bs) ∧ Below W.heap.size W w2) (hbs : bs = false) (hn : 0 < el.length) (HE : ∀ W, Below w.heap.size w W → Calls Tryd.prog 74 #[.slice A5 el.length c5] W fun e w' => ∃ v, e = .returned v ∧ Kd.R kAToken 119 w' W.heap.size (fun _ => True) v Se ∧ Below W.heap.size W w') :
    Calls Tryd.prog 118 #[.agg #[.int .i64 kd, .slice A0 tx.length c0, .int .i64 tk', .int .i64 mt, .int .i64 pt, .slice A1 nm.length c1, .slice A2 ks.length c2, .bool ov, .int .i64 lm, .slice A3 ts.length c3, .slice A4 th.length c4, .slice A5 el.length c5]] w fun e w' => ∃ v, e = .returned v ∧ Kd.R kAToken 119 w' w.heap.size (fun _ => True) v (St ++ tk 5 (⟨#[123]⟩ : ByteArray) :: (Sh ++ tk 5 (⟨#[125]⟩ : ByteArray) :: tk 1 (⟨#[101, 108, 115, 101]⟩ : ByteArray) :: tk 5 (⟨#[123]⟩ : ByteArray) :: (Se ++ [tk 5 (⟨#[125]⟩ : ByteArray)]))) ∧ Below w.heap.size w w' := by
  have hn2 : (0 : Int) < (el.length : Int) := by omega
  subst hbs
  replace HE := Lib.hid HE
  have b2 : (kd != 2) = false := bne_eq_false_iff_eq.mpr h2
  clear h2
  replace HT := Lib.hid HT
  replace HH := Lib.hid HH
  replace HS := Lib.hid HS
  have HK := Lib.hid (fun k s w => tok_calls k s w)
  have hP : BlkT (w.alloc (.cells #[.int .i64 kd, .slice A0 tx.length c0, .int .i64 tk', .int .i64 mt, .int .i64 pt, .slice A1 nm.length c1, .slice A2 ks.length c2, .bool ov, .int .i64 lm, .slice A3 ts.length c3, .slice A4 th.length c4, .slice A5 el.length c5] 109)) w.heap.size 109 [.int .i64 kd, .slice A0 tx.length c0, .int .i64 tk', .int .i64 mt, .int .i64 pt, .slice A1 nm.length c1, .slice A2 ks.length c2, .bool ov, .int .i64 lm, .slice A3 ts.length c3, .slice A4 th.length c4, .slice A5 el.length c5] := BlkT.made w _ _
  have hB : Below w.heap.size w (w.alloc (.cells #[.int .i64 kd, .slice A0 tx.length c0, .int .i64 tk', .int .i64 mt, .int .i64 pt, .slice A1 nm.length c1, .slice A2 ks.length c2, .bool ov, .int .i64 lm, .slice A3 ts.length c3, .slice A4 th.length c4, .slice A5 el.length c5] 109)) := (Below.refl _ _).alloc (Nat.le_refl _) _
  have hR : Kd.R kAToken 119 (w.alloc (.cells #[.int .i64 kd, .slice A0 tx.length c0, .int .i64 tk', .int .i64 mt, .int .i64 pt, .slice A1 nm.length c1, .slice A2 ks.length c2, .bool ov, .int .i64 lm, .slice A3 ts.length c3, .slice A4 th.length c4, .slice A5 el.length c5] 109)) w.heap.size (fun _ => True) (.slice none 0 0) [] := Kd.R_nil _ _ _ _ _
  replace hlim := Lib.hid hlim
  have p0 := hP.1.at 0 _ rfl
  have p1 := hP.1.at 1 _ rfl
  have p2 := hP.1.at 2 _ rfl
  have p3 := hP.1.at 3 _ rfl
  have p4 := hP.1.at 4 _ rfl
  have p5 := hP.1.at 5 _ rfl
  have p6 := hP.1.at 6 _ rfl
  have p7 := hP.1.at 7 _ rfl
  have p8 := hP.1.at 8 _ rfl
  have p9 := hP.1.at 9 _ rfl
  have p10 := hP.1.at 10 _ rfl
  have p11 := hP.1.at 11 _ rfl
  go_enter Tryd.func118, Tryd.ntmps118
  go_wp2_with fail
  refine (HT.out _ hB).mono ?_
  rintro e wa ⟨vL, rfl, hRL, hba⟩
  obtain ⟨AL, cL, rfl, hcL, hCL⟩ := C_of hRL
  replace hP := hP.below hba hP.1.lt
  replace hR := Kd.R_below hR hba
  replace hB := hB.trans (hba.mono hB.size)
  clear hba hRL p0 p1 p2 p3 p4 p5 p6 p7 p8 p9 p10 p11
  have hzB := hB.size
  go_wp2_with (at_builtin; refine rows_list rowAToken w.heap.size rfl _ _ rfl (.slice none 0 0) [] St AL cL (by first | rfl | (simp [Act.eval]; done)) (by first | rfl | (simp [Act.eval]; done)) hR hCL (by omega) (by have := hlim.out; (try simp only [List.length_append, List.length_cons, List.length_nil]); omega) ?_)
  intro va wb hRn hbn hgn
  replace hP := hP.row hR hgn (by decide)
  replace hR : Kd.R kAToken 119 wb w.heap.size (fun _ => True) va St := by simpa using hRn
  replace hB := hB.trans hbn
  clear hRn hbn hgn hzB hCL hcL
  have p0 := hP.1.at 0 _ rfl
  have p1 := hP.1.at 1 _ rfl
  have p2 := hP.1.at 2 _ rfl
  have p3 := hP.1.at 3 _ rfl
  have p4 := hP.1.at 4 _ rfl
  have p5 := hP.1.at 5 _ rfl
  have p6 := hP.1.at 6 _ rfl
  have p7 := hP.1.at 7 _ rfl
  have p8 := hP.1.at 8 _ rfl
  have p9 := hP.1.at 9 _ rfl
  have p10 := hP.1.at 10 _ rfl
  have p11 := hP.1.at 11 _ rfl
  go_wp2_with fail
  skip
  refine (HK.out 5 (⟨#[123]⟩ : ByteArray) _).mono ?_
  rintro e wc ⟨rfl, hba⟩
  replace hP := hP.below hba hP.1.lt
  replace hR := Kd.R_below hR hba
  replace hB := hB.trans (hba.mono hB.size)
  clear hba p0 p1 p2 p3 p4 p5 p6 p7 p8 p9 p10 p11
  have hzB := hB.size
  go_wp2_with (at_builtin; refine snoc_list rowAToken w.heap.size rfl _ _ rfl va St (tk 5 (⟨#[123]⟩ : ByteArray)) [.int .i64 5, .string (⟨#[123]⟩ : ByteArray), .int .i64 0] (by first | rfl | (simp [Act.eval]; done)) (by first | rfl | (simp [Act.eval]; done)) rfl hR (by omega) (by have := hlim.out; (try simp only [List.length_append, List.length_cons, List.length_nil]); omega) ?_)
  intro vc wd hRn hbn hgn
  replace hP := hP.row hR hgn (by decide)
  replace hR : Kd.R kAToken 119 wd w.heap.size (fun _ => True) vc (St ++ [tk 5 (⟨#[123]⟩ : ByteArray)]) := by simpa using hRn
  replace hB := hB.trans hbn
  clear hRn hbn hgn hzB
  have p0 := hP.1.at 0 _ rfl
  have p1 := hP.1.at 1 _ rfl
  have p2 := hP.1.at 2 _ rfl
  have p3 := hP.1.at 3 _ rfl
  have p4 := hP.1.at 4 _ rfl
  have p5 := hP.1.at 5 _ rfl
  have p6 := hP.1.at 6 _ rfl
  have p7 := hP.1.at 7 _ rfl
  have p8 := hP.1.at 8 _ rfl
  have p9 := hP.1.at 9 _ rfl
  have p10 := hP.1.at 10 _ rfl
  have p11 := hP.1.at 11 _ rfl
  go_wp2_with fail
  refine (HH.out _ hB).mono ?_
  rintro e we ⟨vL, rfl, hRL, hba⟩
  obtain ⟨AL, cL, rfl, hcL, hCL⟩ := C_of hRL
  replace hP := hP.below hba hP.1.lt
  replace hR := Kd.R_below hR hba
  replace hB := hB.trans (hba.mono hB.size)
  clear hba hRL p0 p1 p2 p3 p4 p5 p6 p7 p8 p9 p10 p11
  have hzB := hB.size
  go_wp2_with (at_builtin; refine rows_list rowAToken w.heap.size rfl _ _ rfl vc (St ++ [tk 5 (⟨#[123]⟩ : ByteArray)]) Sh AL cL (by first | rfl | (simp [Act.eval]; done)) (by first | rfl | (simp [Act.eval]; done)) hR hCL (by omega) (by have := hlim.out; (try simp only [List.length_append, List.length_cons, List.length_nil]); omega) ?_)
  intro ve wf hRn hbn hgn
  replace hP := hP.row hR hgn (by decide)
  replace hR : Kd.R kAToken 119 wf w.heap.size (fun _ => True) ve (St ++ tk 5 (⟨#[123]⟩ : ByteArray) :: Sh) := by simpa using hRn
  replace hB := hB.trans hbn
  clear hRn hbn hgn hzB hCL hcL
  have p0 := hP.1.at 0 _ rfl
  have p1 := hP.1.at 1 _ rfl
  have p2 := hP.1.at 2 _ rfl
  have p3 := hP.1.at 3 _ rfl
  have p4 := hP.1.at 4 _ rfl
  have p5 := hP.1.at 5 _ rfl
  have p6 := hP.1.at 6 _ rfl
  have p7 := hP.1.at 7 _ rfl
  have p8 := hP.1.at 8 _ rfl
  have p9 := hP.1.at 9 _ rfl
  have p10 := hP.1.at 10 _ rfl
  have p11 := hP.1.at 11 _ rfl
  go_wp2_with fail
  skip
  refine (HK.out 5 (⟨#[125]⟩ : ByteArray) _).mono ?_
  rintro e wg ⟨rfl, hba⟩
  replace hP := hP.below hba hP.1.lt
  replace hR := Kd.R_below hR hba
  replace hB := hB.trans (hba.mono hB.size)
  clear hba p0 p1 p2 p3 p4 p5 p6 p7 p8 p9 p10 p11
  have hzB := hB.size
  go_wp2_with (at_builtin; refine snoc_list rowAToken w.heap.size rfl _ _ rfl ve (St ++ tk 5 (⟨#[123]⟩ : ByteArray) :: Sh) (tk 5 (⟨#[125]⟩ : ByteArray)) [.int .i64 5, .string (⟨#[125]⟩ : ByteArray), .int .i64 0] (by first | rfl | (simp [Act.eval]; done)) (by first | rfl | (simp [Act.eval]; done)) rfl hR (by omega) (by have := hlim.out; (try simp only [List.length_append, List.length_cons, List.length_nil]); omega) ?_)
  intro vg wh hRn hbn hgn
  replace hP := hP.row hR hgn (by decide)
  replace hR : Kd.R kAToken 119 wh w.heap.size (fun _ => True) vg (St ++ tk 5 (⟨#[123]⟩ : ByteArray) :: (Sh ++ [tk 5 (⟨#[125]⟩ : ByteArray)])) := by simpa using hRn
  replace hB := hB.trans hbn
  clear hRn hbn hgn hzB
  have p0 := hP.1.at 0 _ rfl
  have p1 := hP.1.at 1 _ rfl
  have p2 := hP.1.at 2 _ rfl
  have p3 := hP.1.at 3 _ rfl
  have p4 := hP.1.at 4 _ rfl
  have p5 := hP.1.at 5 _ rfl
  have p6 := hP.1.at 6 _ rfl
  have p7 := hP.1.at 7 _ rfl
  have p8 := hP.1.at 8 _ rfl
  have p9 := hP.1.at 9 _ rfl
  have p10 := hP.1.at 10 _ rfl
  have p11 := hP.1.at 11 _ rfl
  go_wp2_with fail
  refine (HS.out _ hB).mono ?_
  rintro e wi ⟨rfl, hbi⟩
  replace hP := hP.below hbi hP.1.lt
  replace hR := Kd.R_below hR hbi
  replace hB := hB.trans (hbi.mono hB.size)
  clear p0 p1 p2 p3 p4 p5 p6 p7 p8 p9 p10 p11
  clear hbi
  have p0 := hP.1.at 0 _ rfl
  have p1 := hP.1.at 1 _ rfl
  have p2 := hP.1.at 2 _ rfl
  have p3 := hP.1.at 3 _ rfl
  have p4 := hP.1.at 4 _ rfl
  have p5 := hP.1.at 5 _ rfl
  have p6 := hP.1.at 6 _ rfl
  have p7 := hP.1.at 7 _ rfl
  have p8 := hP.1.at 8 _ rfl
  have p9 := hP.1.at 9 _ rfl
  have p10 := hP.1.at 10 _ rfl
  have p11 := hP.1.at 11 _ rfl
  go_wp2_with fail
  refine (HK.out 1 (⟨#[101, 108, 115, 101]⟩ : ByteArray) _).mono ?_
  rintro e wj ⟨rfl, hbj⟩
  replace hP := hP.below hbj hP.1.lt
  replace hR := Kd.R_below hR hbj
  replace hB := hB.trans (hbj.mono hB.size)
  clear hbj
  clear p0 p1 p2 p3 p4 p5 p6 p7 p8 p9 p10 p11
  go_wp2_with fail
  refine (HK.out 5 (⟨#[123]⟩ : ByteArray) _).mono ?_
  rintro e wk ⟨rfl, hbk⟩
  replace hP := hP.below hbk hP.1.lt
  replace hR := Kd.R_below hR hbk
  replace hB := hB.trans (hbk.mono hB.size)
  clear hbk
  have hC2 := lit_two wk (tk 1 (⟨#[101, 108, 115, 101]⟩ : ByteArray)) (tk 5 (⟨#[123]⟩ : ByteArray))
  have hP4 := hP.alloc (.cells #[.int .i64 1, .string (⟨#[101, 108, 115, 101]⟩ : ByteArray), .int .i64 0, .int .i64 5, .string (⟨#[123]⟩ : ByteArray), .int .i64 0] 119)
  have hR4 := Kd.R_below hR ((Below.refl _ _).alloc (Nat.le_refl _) (.cells #[.int .i64 1, .string (⟨#[101, 108, 115, 101]⟩ : ByteArray), .int .i64 0, .int .i64 5, .string (⟨#[123]⟩ : ByteArray), .int .i64 0] 119))
  have hB4 := hB.alloc hB.size (.cells #[.int .i64 1, .string (⟨#[101, 108, 115, 101]⟩ : ByteArray), .int .i64 0, .int .i64 5, .string (⟨#[123]⟩ : ByteArray), .int .i64 0] 119)
  have hz4 := hB4.size
  go_wp2_with (at_builtin; refine rows_list rowAToken w.heap.size rfl _ _ rfl vg (St ++ tk 5 (⟨#[123]⟩ : ByteArray) :: (Sh ++ [tk 5 (⟨#[125]⟩ : ByteArray)])) [tk 1 (⟨#[101, 108, 115, 101]⟩ : ByteArray), tk 5 (⟨#[123]⟩ : ByteArray)] (some ⟨wk.heap.size, 0, none⟩) 2 (by first | rfl | (simp [Act.eval]; done)) (by first | rfl | (simp [Act.eval]; done)) hR4 hC2 (by omega) (by have := hlim.out; (try simp only [List.length_append, List.length_cons, List.length_nil]); omega) ?_)
  intro vl wl hRn hbn hgn
  replace hP := hP4.row hR4 hgn (by decide)
  replace hR : Kd.R kAToken 119 wl w.heap.size (fun _ => True) vl (St ++ tk 5 (⟨#[123]⟩ : ByteArray) :: (Sh ++ tk 5 (⟨#[125]⟩ : ByteArray) :: [tk 1 (⟨#[101, 108, 115, 101]⟩ : ByteArray), tk 5 (⟨#[123]⟩ : ByteArray)])) := by simpa using hRn
  replace hB := hB4.trans hbn
  clear hRn hbn hgn hz4 hC2 hP4 hR4 hB4
  have p0 := hP.1.at 0 _ rfl
  have p1 := hP.1.at 1 _ rfl
  have p2 := hP.1.at 2 _ rfl
  have p3 := hP.1.at 3 _ rfl
  have p4 := hP.1.at 4 _ rfl
  have p5 := hP.1.at 5 _ rfl
  have p6 := hP.1.at 6 _ rfl
  have p7 := hP.1.at 7 _ rfl
  have p8 := hP.1.at 8 _ rfl
  have p9 := hP.1.at 9 _ rfl
  have p10 := hP.1.at 10 _ rfl
  have p11 := hP.1.at 11 _ rfl
  go_wp2_with fail
  refine (HE.out _ hB).mono ?_
  rintro e wm ⟨vL, rfl, hRL, hba⟩
  obtain ⟨AL, cL, rfl, hcL, hCL⟩ := C_of hRL
  replace hP := hP.below hba hP.1.lt
  replace hR := Kd.R_below hR hba
  replace hB := hB.trans (hba.mono hB.size)
  clear hba hRL p0 p1 p2 p3 p4 p5 p6 p7 p8 p9 p10 p11
  have hzB := hB.size
  go_wp2_with (at_builtin; refine rows_list rowAToken w.heap.size rfl _ _ rfl vl (St ++ tk 5 (⟨#[123]⟩ : ByteArray) :: (Sh ++ tk 5 (⟨#[125]⟩ : ByteArray) :: [tk 1 (⟨#[101, 108, 115, 101]⟩ : ByteArray), tk 5 (⟨#[123]⟩ : ByteArray)])) Se AL cL (by first | rfl | (simp [Act.eval]; done)) (by first | rfl | (simp [Act.eval]; done)) hR hCL (by omega) (by have := hlim.out; (try simp only [List.length_append, List.length_cons, List.length_nil]); omega) ?_)
  intro vm wn hRn hbn hgn
  replace hP := hP.row hR hgn (by decide)
  replace hR : Kd.R kAToken 119 wn w.heap.size (fun _ => True) vm (St ++ tk 5 (⟨#[123]⟩ : ByteArray) :: (Sh ++ tk 5 (⟨#[125]⟩ : ByteArray) :: tk 1 (⟨#[101, 108, 115, 101]⟩ : ByteArray) :: tk 5 (⟨#[123]⟩ : ByteArray) :: Se)) := by simpa using hRn
  replace hB := hB.trans hbn
  clear hRn hbn hgn hzB hCL hcL
  have p0 := hP.1.at 0 _ rfl
  have p1 := hP.1.at 1 _ rfl
  have p2 := hP.1.at 2 _ rfl
  have p3 := hP.1.at 3 _ rfl
  have p4 := hP.1.at 4 _ rfl
  have p5 := hP.1.at 5 _ rfl
  have p6 := hP.1.at 6 _ rfl
  have p7 := hP.1.at 7 _ rfl
  have p8 := hP.1.at 8 _ rfl
  have p9 := hP.1.at 9 _ rfl
  have p10 := hP.1.at 10 _ rfl
  have p11 := hP.1.at 11 _ rfl
  go_wp2_with fail
  skip
  refine (HK.out 5 (⟨#[125]⟩ : ByteArray) _).mono ?_
  rintro e wo ⟨rfl, hba⟩
  replace hP := hP.below hba hP.1.lt
  replace hR := Kd.R_below hR hba
  replace hB := hB.trans (hba.mono hB.size)
  clear hba p0 p1 p2 p3 p4 p5 p6 p7 p8 p9 p10 p11
  have hzB := hB.size
  go_wp2_with (at_builtin; refine snoc_list rowAToken w.heap.size rfl _ _ rfl vm (St ++ tk 5 (⟨#[123]⟩ : ByteArray) :: (Sh ++ tk 5 (⟨#[125]⟩ : ByteArray) :: tk 1 (⟨#[101, 108, 115, 101]⟩ : ByteArray) :: tk 5 (⟨#[123]⟩ : ByteArray) :: Se)) (tk 5 (⟨#[125]⟩ : ByteArray)) [.int .i64 5, .string (⟨#[125]⟩ : ByteArray), .int .i64 0] (by first | rfl | (simp [Act.eval]; done)) (by first | rfl | (simp [Act.eval]; done)) rfl hR (by omega) (by have := hlim.out; (try simp only [List.length_append, List.length_cons, List.length_nil]); omega) ?_)
  intro vo wp hRn hbn hgn
  replace hP := hP.row hR hgn (by decide)
  replace hR : Kd.R kAToken 119 wp w.heap.size (fun _ => True) vo (St ++ tk 5 (⟨#[123]⟩ : ByteArray) :: (Sh ++ tk 5 (⟨#[125]⟩ : ByteArray) :: tk 1 (⟨#[101, 108, 115, 101]⟩ : ByteArray) :: tk 5 (⟨#[123]⟩ : ByteArray) :: (Se ++ [tk 5 (⟨#[125]⟩ : ByteArray)]))) := by simpa using hRn
  replace hB := hB.trans hbn
  clear hRn hbn hgn hzB
  have p0 := hP.1.at 0 _ rfl
  have p1 := hP.1.at 1 _ rfl
  have p2 := hP.1.at 2 _ rfl
  have p3 := hP.1.at 3 _ rfl
  have p4 := hP.1.at 4 _ rfl
  have p5 := hP.1.at 5 _ rfl
  have p6 := hP.1.at 6 _ rfl
  have p7 := hP.1.at 7 _ rfl
  have p8 := hP.1.at 8 _ rfl
  have p9 := hP.1.at 9 _ rfl
  have p10 := hP.1.at 10 _ rfl
  have p11 := hP.1.at 11 _ rfl
  go_wp2_with fail
  go_ret
  exact ⟨_, rfl, hR, hB⟩
set_option maxHeartbeats 1000000 in
set_option maxRecDepth 100000 in
theorem rs_c (n : Nat) (kd : Int) (A0 : Option Addr) (c0 : Nat) (tx : List ByteArray) (tk' mt pt : Int) (A1 : Option Addr) (c1 : Nat) (nm : List ByteArray) (A2 : Option Addr) (c2 : Nat) (ks : List ByteArray) (ov : Bool) (lm : Int) (A3 : Option Addr) (c3 : Nat) (ts : List (TestN n)) (A4 : Option Addr) (c4 : Nat) (th : List (CmdN n)) (A5 : Option Addr) (c5 : Nat) (el : List (CmdN n)) (w : World) (St Sh Se : List AToken) (h2 : kd = 2) (hlim : St.length + Sh.length + Se.length ≤ 33554432)
    (HT : ∀ W, Below w.heap.size w W → Calls Tryd.prog 168 #[.agg #[.int .i64 tk', .int .i64 mt, .int .i64 pt, .slice A1 nm.length c1, .slice A2 ks.length c2, .bool ov, .int .i64 lm, .slice A3 ts.length c3]] W fun e w' => ∃ v, e = .returned v ∧ Kd.R kAToken 119 w' W.heap.size (fun _ => True) v St ∧ Below W.heap.size W w')
    (HH : ∀ W, Below w.heap.size w W → Calls Tryd.prog 74 #[.slice A4 th.length c4] W fun e w' => ∃ v, e = .returned v ∧ Kd.R kAToken 119 w' W.heap.size (fun _ => True) v Sh ∧ Below W.heap.size W w')
    (bs : Bool) (HS : ∀ W, Below w.heap.size w W → Calls Tryd.prog 166 #[.agg #[.int .i64 kd, .slice A0 tx.length c0, .int .i64 tk', .int .i64 mt, .int .i64 pt, .slice A1 nm.length c1, .slice A2 ks.length c2, .bool ov, .int .i64 lm, .slice A3 ts.length c3, .slice A4 th.length c4, .slice A5 el.length c5]] W fun e w2 => e = .returned (.bool bs) ∧ Below W.heap.size W w2) (hbs : bs = true) (hn : el.length = 1) (r5 : (kCmd n).C w A5 el.length el)
    (HC : ∀ cs W, (kCmd n).K w (el[0]'(by omega)) cs → Below w.heap.size w W → Calls Tryd.prog 118 #[.agg cs.toArray] W fun e w' => ∃ v, e = .returned v ∧ Kd.R kAToken 119 w' W.heap.size (fun _ => True) v Se ∧ Below W.heap.size W w') :
    Calls Tryd.prog 118 #[.agg #[.int .i64 kd, .slice A0 tx.length c0, .int .i64 tk', .int .i64 mt, .int .i64 pt, .slice A1 nm.length c1, .slice A2 ks.length c2, .bool ov, .int .i64 lm, .slice A3 ts.length c3, .slice A4 th.length c4, .slice A5 el.length c5]] w fun e w' => ∃ v, e = .returned v ∧ Kd.R kAToken 119 w' w.heap.size (fun _ => True) v (St ++ tk 5 (⟨#[123]⟩ : ByteArray) :: (Sh ++ tk 5 (⟨#[125]⟩ : ByteArray) :: tk 1 (⟨#[101, 108, 115, 105, 102]⟩ : ByteArray) :: Se)) ∧ Below w.heap.size w w' := by
  subst hbs
  have hn2 : (0 : Int) < (el.length : Int) := by omega
  skip
  obtain ⟨ad, cx, e1', hKx, hx0, hxj⟩ := elem_at r5 (kCmd_sz n) 0 (by omega)
  obtain ⟨X1, l1, C1, x2, x3, x4, X5, l5, C5, X6, l6, C6, x7, x8, X9, l9, C9, X10, l10, C10, X11, l11, C11, rfl⟩ := cmdN_K hKx
  have ez : ad.add (0 * 12) = ad := by simp [Addr.add]
  rw [ez] at hx0 hxj
  have FF := Lib.hid (fun W (h : Below w.heap.size w W) => And.intro (pw_cell_below h (hx0 _ rfl)) (And.intro (pw_cell_below h (hxj 1 _ (by decide) rfl)) (And.intro (pw_cell_below h (hxj 2 _ (by decide) rfl)) (And.intro (pw_cell_below h (hxj 3 _ (by decide) rfl)) (And.intro (pw_cell_below h (hxj 4 _ (by decide) rfl)) (And.intro (pw_cell_below h (hxj 5 _ (by decide) rfl)) (And.intro (pw_cell_below h (hxj 6 _ (by decide) rfl)) (And.intro (pw_cell_below h (hxj 7 _ (by decide) rfl)) (And.intro (pw_cell_below h (hxj 8 _ (by decide) rfl)) (And.intro (pw_cell_below h (hxj 9 _ (by decide) rfl)) (And.intro (pw_cell_below h (hxj 10 _ (by decide) rfl)) (pw_cell_below h (hxj 11 _ (by decide) rfl)))))))))))))
  replace HC := Lib.hid (fun W => HC _ W hKx)
  generalize kindC n (el[0]'(by omega)) = x0 at *
  clear hn hKx hx0 hxj ez r5
  replace e1' := Lib.hid e1'
  have b2 : (kd != 2) = false := bne_eq_false_iff_eq.mpr h2
  clear h2
  replace HT := Lib.hid HT
  replace HH := Lib.hid HH
  replace HS := Lib.hid HS
  have HK := Lib.hid (fun k s w => tok_calls k s w)
  have hP : BlkT (w.alloc (.cells #[.int .i64 kd, .slice A0 tx.length c0, .int .i64 tk', .int .i64 mt, .int .i64 pt, .slice A1 nm.length c1, .slice A2 ks.length c2, .bool ov, .int .i64 lm, .slice A3 ts.length c3, .slice A4 th.length c4, .slice A5 el.length c5] 109)) w.heap.size 109 [.int .i64 kd, .slice A0 tx.length c0, .int .i64 tk', .int .i64 mt, .int .i64 pt, .slice A1 nm.length c1, .slice A2 ks.length c2, .bool ov, .int .i64 lm, .slice A3 ts.length c3, .slice A4 th.length c4, .slice A5 el.length c5] := BlkT.made w _ _
  have hB : Below w.heap.size w (w.alloc (.cells #[.int .i64 kd, .slice A0 tx.length c0, .int .i64 tk', .int .i64 mt, .int .i64 pt, .slice A1 nm.length c1, .slice A2 ks.length c2, .bool ov, .int .i64 lm, .slice A3 ts.length c3, .slice A4 th.length c4, .slice A5 el.length c5] 109)) := (Below.refl _ _).alloc (Nat.le_refl _) _
  have hR : Kd.R kAToken 119 (w.alloc (.cells #[.int .i64 kd, .slice A0 tx.length c0, .int .i64 tk', .int .i64 mt, .int .i64 pt, .slice A1 nm.length c1, .slice A2 ks.length c2, .bool ov, .int .i64 lm, .slice A3 ts.length c3, .slice A4 th.length c4, .slice A5 el.length c5] 109)) w.heap.size (fun _ => True) (.slice none 0 0) [] := Kd.R_nil _ _ _ _ _
  replace hlim := Lib.hid hlim
  have p0 := hP.1.at 0 _ rfl
  have p1 := hP.1.at 1 _ rfl
  have p2 := hP.1.at 2 _ rfl
  have p3 := hP.1.at 3 _ rfl
  have p4 := hP.1.at 4 _ rfl
  have p5 := hP.1.at 5 _ rfl
  have p6 := hP.1.at 6 _ rfl
  have p7 := hP.1.at 7 _ rfl
  have p8 := hP.1.at 8 _ rfl
  have p9 := hP.1.at 9 _ rfl
  have p10 := hP.1.at 10 _ rfl
  have p11 := hP.1.at 11 _ rfl
  go_enter Tryd.func118, Tryd.ntmps118
  go_wp2_with fail
  refine (HT.out _ hB).mono ?_
  rintro e wa ⟨vL, rfl, hRL, hba⟩
  obtain ⟨AL, cL, rfl, hcL, hCL⟩ := C_of hRL
  replace hP := hP.below hba hP.1.lt
  replace hR := Kd.R_below hR hba
  replace hB := hB.trans (hba.mono hB.size)
  clear hba hRL p0 p1 p2 p3 p4 p5 p6 p7 p8 p9 p10 p11
  have hzB := hB.size
  go_wp2_with (at_builtin; refine rows_list rowAToken w.heap.size rfl _ _ rfl (.slice none 0 0) [] St AL cL (by first | rfl | (simp [Act.eval]; done)) (by first | rfl | (simp [Act.eval]; done)) hR hCL (by omega) (by have := hlim.out; (try simp only [List.length_append, List.length_cons, List.length_nil]); omega) ?_)
  intro va wb hRn hbn hgn
  replace hP := hP.row hR hgn (by decide)
  replace hR : Kd.R kAToken 119 wb w.heap.size (fun _ => True) va St := by simpa using hRn
  replace hB := hB.trans hbn
  clear hRn hbn hgn hzB hCL hcL
  have p0 := hP.1.at 0 _ rfl
  have p1 := hP.1.at 1 _ rfl
  have p2 := hP.1.at 2 _ rfl
  have p3 := hP.1.at 3 _ rfl
  have p4 := hP.1.at 4 _ rfl
  have p5 := hP.1.at 5 _ rfl
  have p6 := hP.1.at 6 _ rfl
  have p7 := hP.1.at 7 _ rfl
  have p8 := hP.1.at 8 _ rfl
  have p9 := hP.1.at 9 _ rfl
  have p10 := hP.1.at 10 _ rfl
  have p11 := hP.1.at 11 _ rfl
  go_wp2_with fail
  skip
  refine (HK.out 5 (⟨#[123]⟩ : ByteArray) _).mono ?_
  rintro e wc ⟨rfl, hba⟩
  replace hP := hP.below hba hP.1.lt
  replace hR := Kd.R_below hR hba
  replace hB := hB.trans (hba.mono hB.size)
  clear hba p0 p1 p2 p3 p4 p5 p6 p7 p8 p9 p10 p11
  have hzB := hB.size
  go_wp2_with (at_builtin; refine snoc_list rowAToken w.heap.size rfl _ _ rfl va St (tk 5 (⟨#[123]⟩ : ByteArray)) [.int .i64 5, .string (⟨#[123]⟩ : ByteArray), .int .i64 0] (by first | rfl | (simp [Act.eval]; done)) (by first | rfl | (simp [Act.eval]; done)) rfl hR (by omega) (by have := hlim.out; (try simp only [List.length_append, List.length_cons, List.length_nil]); omega) ?_)
  intro vc wd hRn hbn hgn
  replace hP := hP.row hR hgn (by decide)
  replace hR : Kd.R kAToken 119 wd w.heap.size (fun _ => True) vc (St ++ [tk 5 (⟨#[123]⟩ : ByteArray)]) := by simpa using hRn
  replace hB := hB.trans hbn
  clear hRn hbn hgn hzB
  have p0 := hP.1.at 0 _ rfl
  have p1 := hP.1.at 1 _ rfl
  have p2 := hP.1.at 2 _ rfl
  have p3 := hP.1.at 3 _ rfl
  have p4 := hP.1.at 4 _ rfl
  have p5 := hP.1.at 5 _ rfl
  have p6 := hP.1.at 6 _ rfl
  have p7 := hP.1.at 7 _ rfl
  have p8 := hP.1.at 8 _ rfl
  have p9 := hP.1.at 9 _ rfl
  have p10 := hP.1.at 10 _ rfl
  have p11 := hP.1.at 11 _ rfl
  go_wp2_with fail
  refine (HH.out _ hB).mono ?_
  rintro e we ⟨vL, rfl, hRL, hba⟩
  obtain ⟨AL, cL, rfl, hcL, hCL⟩ := C_of hRL
  replace hP := hP.below hba hP.1.lt
  replace hR := Kd.R_below hR hba
  replace hB := hB.trans (hba.mono hB.size)
  clear hba hRL p0 p1 p2 p3 p4 p5 p6 p7 p8 p9 p10 p11
  have hzB := hB.size
  go_wp2_with (at_builtin; refine rows_list rowAToken w.heap.size rfl _ _ rfl vc (St ++ [tk 5 (⟨#[123]⟩ : ByteArray)]) Sh AL cL (by first | rfl | (simp [Act.eval]; done)) (by first | rfl | (simp [Act.eval]; done)) hR hCL (by omega) (by have := hlim.out; (try simp only [List.length_append, List.length_cons, List.length_nil]); omega) ?_)
  intro ve wf hRn hbn hgn
  replace hP := hP.row hR hgn (by decide)
  replace hR : Kd.R kAToken 119 wf w.heap.size (fun _ => True) ve (St ++ tk 5 (⟨#[123]⟩ : ByteArray) :: Sh) := by simpa using hRn
  replace hB := hB.trans hbn
  clear hRn hbn hgn hzB hCL hcL
  have p0 := hP.1.at 0 _ rfl
  have p1 := hP.1.at 1 _ rfl
  have p2 := hP.1.at 2 _ rfl
  have p3 := hP.1.at 3 _ rfl
  have p4 := hP.1.at 4 _ rfl
  have p5 := hP.1.at 5 _ rfl
  have p6 := hP.1.at 6 _ rfl
  have p7 := hP.1.at 7 _ rfl
  have p8 := hP.1.at 8 _ rfl
  have p9 := hP.1.at 9 _ rfl
  have p10 := hP.1.at 10 _ rfl
  have p11 := hP.1.at 11 _ rfl
  go_wp2_with fail
  skip
  refine (HK.out 5 (⟨#[125]⟩ : ByteArray) _).mono ?_
  rintro e wg ⟨rfl, hba⟩
  replace hP := hP.below hba hP.1.lt
  replace hR := Kd.R_below hR hba
  replace hB := hB.trans (hba.mono hB.size)
  clear hba p0 p1 p2 p3 p4 p5 p6 p7 p8 p9 p10 p11
  have hzB := hB.size
  go_wp2_with (at_builtin; refine snoc_list rowAToken w.heap.size rfl _ _ rfl ve (St ++ tk 5 (⟨#[123]⟩ : ByteArray) :: Sh) (tk 5 (⟨#[125]⟩ : ByteArray)) [.int .i64 5, .string (⟨#[125]⟩ : ByteArray), .int .i64 0] (by first | rfl | (simp [Act.eval]; done)) (by first | rfl | (simp [Act.eval]; done)) rfl hR (by omega) (by have := hlim.out; (try simp only [List.length_append, List.length_cons, List.length_nil]); omega) ?_)
  intro vg wh hRn hbn hgn
  replace hP := hP.row hR hgn (by decide)
  replace hR : Kd.R kAToken 119 wh w.heap.size (fun _ => True) vg (St ++ tk 5 (⟨#[123]⟩ : ByteArray) :: (Sh ++ [tk 5 (⟨#[125]⟩ : ByteArray)])) := by simpa using hRn
  replace hB := hB.trans hbn
  clear hRn hbn hgn hzB
  have p0 := hP.1.at 0 _ rfl
  have p1 := hP.1.at 1 _ rfl
  have p2 := hP.1.at 2 _ rfl
  have p3 := hP.1.at 3 _ rfl
  have p4 := hP.1.at 4 _ rfl
  have p5 := hP.1.at 5 _ rfl
  have p6 := hP.1.at 6 _ rfl
  have p7 := hP.1.at 7 _ rfl
  have p8 := hP.1.at 8 _ rfl
  have p9 := hP.1.at 9 _ rfl
  have p10 := hP.1.at 10 _ rfl
  have p11 := hP.1.at 11 _ rfl
  go_wp2_with fail
  refine (HS.out _ hB).mono ?_
  rintro e wi ⟨rfl, hbi⟩
  replace hP := hP.below hbi hP.1.lt
  replace hR := Kd.R_below hR hbi
  replace hB := hB.trans (hbi.mono hB.size)
  clear p0 p1 p2 p3 p4 p5 p6 p7 p8 p9 p10 p11
  clear hbi
  have p0 := hP.1.at 0 _ rfl
  have p1 := hP.1.at 1 _ rfl
  have p2 := hP.1.at 2 _ rfl
  have p3 := hP.1.at 3 _ rfl
  have p4 := hP.1.at 4 _ rfl
  have p5 := hP.1.at 5 _ rfl
  have p6 := hP.1.at 6 _ rfl
  have p7 := hP.1.at 7 _ rfl
  have p8 := hP.1.at 8 _ rfl
  have p9 := hP.1.at 9 _ rfl
  have p10 := hP.1.at 10 _ rfl
  have p11 := hP.1.at 11 _ rfl
  go_wp2_with fail
  refine (HK.out 1 (⟨#[101, 108, 115, 105, 102]⟩ : ByteArray) _).mono ?_
  rintro e wj ⟨rfl, hba⟩
  replace hP := hP.below hba hP.1.lt
  replace hR := Kd.R_below hR hba
  replace hB := hB.trans (hba.mono hB.size)
  clear hba p0 p1 p2 p3 p4 p5 p6 p7 p8 p9 p10 p11
  have hzB := hB.size
  go_wp2_with (at_builtin; refine snoc_list rowAToken w.heap.size rfl _ _ rfl vg (St ++ tk 5 (⟨#[123]⟩ : ByteArray) :: (Sh ++ [tk 5 (⟨#[125]⟩ : ByteArray)])) (tk 1 (⟨#[101, 108, 115, 105, 102]⟩ : ByteArray)) [.int .i64 1, .string (⟨#[101, 108, 115, 105, 102]⟩ : ByteArray), .int .i64 0] (by first | rfl | (simp [Act.eval]; done)) (by first | rfl | (simp [Act.eval]; done)) rfl hR (by omega) (by have := hlim.out; (try simp only [List.length_append, List.length_cons, List.length_nil]); omega) ?_)
  intro vj wk hRn hbn hgn
  replace hP := hP.row hR hgn (by decide)
  replace hR : Kd.R kAToken 119 wk w.heap.size (fun _ => True) vj (St ++ tk 5 (⟨#[123]⟩ : ByteArray) :: (Sh ++ tk 5 (⟨#[125]⟩ : ByteArray) :: [tk 1 (⟨#[101, 108, 115, 105, 102]⟩ : ByteArray)])) := by simpa using hRn
  replace hB := hB.trans hbn
  clear hRn hbn hgn hzB
  have p0 := hP.1.at 0 _ rfl
  have p1 := hP.1.at 1 _ rfl
  have p2 := hP.1.at 2 _ rfl
  have p3 := hP.1.at 3 _ rfl
  have p4 := hP.1.at 4 _ rfl
  have p5 := hP.1.at 5 _ rfl
  have p6 := hP.1.at 6 _ rfl
  have p7 := hP.1.at 7 _ rfl
  have p8 := hP.1.at 8 _ rfl
  have p9 := hP.1.at 9 _ rfl
  have p10 := hP.1.at 10 _ rfl
  have p11 := hP.1.at 11 _ rfl
  have e2 := e1'.out
  subst e2
  clear e1'
  obtain ⟨q0, q1, q2, q3, q4, q5, q6, q7, q8, q9, q10, q11⟩ := FF.out _ hB
  go_wp2_with fail
  refine (HC.out _ hB).mono ?_
  rintro e wm ⟨vL, rfl, hRL, hba⟩
  obtain ⟨AL, cL, rfl, hcL, hCL⟩ := C_of hRL
  replace hP := hP.below hba hP.1.lt
  replace hR := Kd.R_below hR hba
  replace hB := hB.trans (hba.mono hB.size)
  clear hba hRL p0 p1 p2 p3 p4 p5 p6 p7 p8 p9 p10 p11
  have hzB := hB.size
  go_wp2_with (at_builtin; refine rows_list rowAToken w.heap.size rfl _ _ rfl vj (St ++ tk 5 (⟨#[123]⟩ : ByteArray) :: (Sh ++ tk 5 (⟨#[125]⟩ : ByteArray) :: [tk 1 (⟨#[101, 108, 115, 105, 102]⟩ : ByteArray)])) Se AL cL (by first | rfl | (simp [Act.eval]; done)) (by first | rfl | (simp [Act.eval]; done)) hR hCL (by omega) (by have := hlim.out; (try simp only [List.length_append, List.length_cons, List.length_nil]); omega) ?_)
  intro vm wn hRn hbn hgn
  replace hP := hP.row hR hgn (by decide)
  replace hR : Kd.R kAToken 119 wn w.heap.size (fun _ => True) vm (St ++ tk 5 (⟨#[123]⟩ : ByteArray) :: (Sh ++ tk 5 (⟨#[125]⟩ : ByteArray) :: tk 1 (⟨#[101, 108, 115, 105, 102]⟩ : ByteArray) :: Se)) := by simpa using hRn
  replace hB := hB.trans hbn
  clear hRn hbn hgn hzB hCL hcL
  have p0 := hP.1.at 0 _ rfl
  have p1 := hP.1.at 1 _ rfl
  have p2 := hP.1.at 2 _ rfl
  have p3 := hP.1.at 3 _ rfl
  have p4 := hP.1.at 4 _ rfl
  have p5 := hP.1.at 5 _ rfl
  have p6 := hP.1.at 6 _ rfl
  have p7 := hP.1.at 7 _ rfl
  have p8 := hP.1.at 8 _ rfl
  have p9 := hP.1.at 9 _ rfl
  have p10 := hP.1.at 10 _ rfl
  have p11 := hP.1.at 11 _ rfl
  go_wp2_with fail
  go_ret
  exact ⟨_, rfl, hR, hB⟩
end Go.Proofs.YtijdghplfhfpaaaDoor.H

/- Scripts: script.Check. -/
namespace Go.Proofs.YtijdghplfhfpaaaDoor.H
open Go.RowKit Go.Proofs.YtijdghplfhfpaaaDoorW.PrintWords Go.Proofs.YtijdghplfhfpaaaDoorW.PrintLast Go.Proofs.YtijdghplfhfpaaaDoor.U
set_option linter.unusedVariables false
set_option linter.unusedSimpArgs false
/-- The tables, as they lie in a world. -/
def TabC (w : World) : Prop := Kd.C Kd.string w (some ⟨2, 0, none⟩) testWords.length testWords ∧ Kd.C Kd.string w (some ⟨3, 0, none⟩) partWords.length partWords ∧ Kd.C Kd.string w (some ⟨4, 0, none⟩) matchWords.length matchWords ∧ Kd.C Kd.string w (some ⟨1, 0, none⟩) commandWords.length commandWords
theorem tabs_of {w0 w : World} {b : Nat} (h : TabC w0) (hb : Below w0.heap.size w0 w) (hz : w0.heap.size ≤ b) : Tabs w b :=
  ⟨⟨w0, hz, hb, h.1⟩, ⟨w0, hz, hb, h.2.1⟩, ⟨w0, hz, hb, h.2.2.1⟩, ⟨w0, hz, hb, h.2.2.2⟩⟩
theorem TabC.below {w w1 : World} (h : TabC w) (hb : Below w.heap.size w w1) : TabC w1 := ⟨Kd.C_below h.1 hb, Kd.C_below h.2.1 hb, Kd.C_below h.2.2.1 hb, Kd.C_below h.2.2.2 hb⟩
/-- What is wrong with commands. -/
def faultV (n : Nat) (l : List (CmdN n)) : Int := if errs (fun x => checkC n x 0) l = 0 then (if 400 < (l.flatMap (showC n)).length then 5 else 0) else errs (fun x => checkC n x 0) l
set_option maxHeartbeats 2000000 in
set_option maxRecDepth 100000 in
theorem scriptCheck_bad (n : Nat) (A : Option Addr) (c : Nat) (l : List (CmdN n)) (w : World) (hr : (kCmd n).C w A l.length l) (hw : (l.map (wtC n)).sum ≤ 1048576) (v : Int) (hv : errs (fun x => checkC n x 0) l = v) (h0 : ¬ v = 0) :
    Calls Tryd.prog 35 #[.slice A l.length c] w fun e w' => e = .returned (.int .i64 v) ∧ Below w.heap.size w w' := by
  have HC := Lib.hid (checkAll_calls n A c l 0 w hr hw (by decide) (by decide))
  rw [hv] at HC
  have hvb : (v != 0) = true := bne_iff_ne.mpr h0
  clear hv h0 hr
  go_enter Tryd.func35, Tryd.ntmps35
  go_wp2_with fail
  refine HC.out.mono ?_
  rintro e w1 ⟨rfl, hb1⟩
  go_wp2_with fail
  go_ret
  exact ⟨rfl, hb1⟩
set_option maxHeartbeats 2000000 in
set_option maxRecDepth 100000 in
theorem scriptCheck_good (n : Nat) (A : Option Addr) (c : Nat) (l : List (CmdN n)) (w : World) (hr : (kCmd n).C w A l.length l) (hw : (l.map (wtC n)).sum ≤ 1048576) (hv : errs (fun x => checkC n x 0) l = 0) (hT : TabC w) :
    Calls Tryd.prog 35 #[.slice A l.length c] w fun e w' => e = .returned (.int .i64 (if 400 < (l.flatMap (showC n)).length then 5 else 0)) ∧ Below w.heap.size w w' := by
  have HC := Lib.hid (checkAll_calls n A c l 0 w hr hw (by decide) (by decide))
  rw [hv] at HC
  have h63 := hr.2.1
  have hst := Lib.hid (sum_take (wtC n) l)
  have hhl := Lib.hid (fun k => flat_len (showC n) (wtC n) (showC_len n) (l.take k))
  have hc := Lib.hid (fun k hk => errs_all hv k hk)
  replace hr := Lib.hid hr
  replace hT := Lib.hid hT
  replace hw := Lib.hid hw
  clear hv
  generalize hV : (if 400 < (l.flatMap (showC n)).length then (5 : Int) else 0) = V
  replace hV := Lib.hid hV
  go_enter Tryd.func35, Tryd.ntmps35
  go_wp2_with fail
  refine HC.out.mono ?_
  rintro e w1 ⟨rfl, hb1⟩
  go_wp2_with fail
  have hbb : ∃ b, b = w1.heap.size := ⟨_, rfl⟩
  obtain ⟨b, hbe⟩ := hbb
  obtain ⟨w2, hw2e⟩ : ∃ w2 : World, w2 = w1.alloc (.cells #[.slice none 0 0] 114) := ⟨_, rfl⟩
  have hK0 : Blk w2 b [.slice none 0 0] := by rw [hw2e, hbe]; exact Blk.made w1 _ _
  have hW0 : WrAt w2 b [] := ⟨none, 0, 0, hK0, Kd.R_nil _ _ _ _ _⟩
  have hB2 : Below w.heap.size w w2 := by rw [hw2e]; exact hb1.alloc hb1.size _
  have hzb : w.heap.size ≤ b := by rw [hbe]; exact hb1.size
  rw [← hw2e, ← hbe]
  replace hw2e := Lib.hid hw2e
  replace hbe := Lib.hid hbe
  clear hb1
  go_loopw [16] (fun i wr => ∃ k : Nat, k ≤ l.length ∧ i = .int .i64 k ∧ WrAt wr b ((l.take k).flatMap (showC n)) ∧ Wrote b w2 wr) (fun i _ => l.length - (intOf i).toNat)
  case atStart => exact ⟨0, Nat.zero_le _, rfl, by simpa using hW0, Wrote.refl _ _⟩
  case round =>
    obtain ⟨k, hk, rfl, hW, hR⟩ := hrel
    have hbw := hW.lt
    have hB : Below w.heap.size w wr := hB2.trans (hR.1.mono hzb)
    by_cases hlt : k < l.length
    · have hU : Und (kCmd n) wr b A l := ⟨w, hzb, hB, hr.out⟩
      obtain ⟨ad, cx, e1', hKx, hxx⟩ := hU.elem (kCmd_sz n) k hlt
      obtain ⟨X1, l1, C1, x2, x3, x4, X5, l5, C5, X6, l6, C6, x7, x8, X9, l9, C9, X10, l10, C10, X11, l11, C11, rfl⟩ := cmdN_K hKx.now
      subst e1'
      obtain ⟨hx0, hxj⟩ := hxx wr (Below.refl _ _)
      have q0 := hx0 _ rfl; have q1 := hxj 1 _ (by decide) rfl; have q2 := hxj 2 _ (by decide) rfl; have q3 := hxj 3 _ (by decide) rfl; have q4 := hxj 4 _ (by decide) rfl; have q5 := hxj 5 _ (by decide) rfl; have q6 := hxj 6 _ (by decide) rfl; have q7 := hxj 7 _ (by decide) rfl; have q8 := hxj 8 _ (by decide) rfl; have q9 := hxj 9 _ (by decide) rfl; have q10 := hxj 10 _ (by decide) rfl; have q11 := hxj 11 _ (by decide) rfl
      clear hx0 hxj hxx hU
      have hts := List.take_succ_eq_append_getElem hlt
      have hTb := tabs_of hT.out hB hzb
      have HX := Lib.hid (fun l0 W (h : Below b wr W) hW hl => (writer_calls n).2 (l[k]'hlt) _ 0 b l0 W (hKx.step h) (hc.out k hlt) (hTb.step h) hW hl)
      have hsum : ((l.take k).map (wtC n)).sum + wtC n l[k] ≤ (l.map (wtC n)).sum := hst.out k hlt
      have hlen := hhl.out k
      have hsn : (l.take (k + 1)).flatMap (showC n) = (l.take k).flatMap (showC n) ++ showC n l[k] := by rw [hts, List.flatMap_append]; simp only [List.flatMap_cons, List.flatMap_nil, List.append_nil]
      have hlim2 := Lib.hid (show ((l.take k).flatMap (showC n)).length + 8 * wtC n l[k] ≤ 1073741824 by have := hw.out; omega)
      replace hsn := Lib.hid hsn
      clear hts hsum hlen hKx hTb
      generalize kindC n l[k] = x0 at *
      generalize showC n l[k] = Sx at *
      generalize wtC n l[k] = wt at *
      generalize (l.take k).flatMap (showC n) = H at *
      have i0' : (0 : Int) ≤ (k : Int) := by omega
      have i1' : (k : Int) < (l.length : Int) := by omega
      have hO := Blk.made wr #[.int .i64 x0, .slice X1 l1 C1, .int .i64 x2, .int .i64 x3, .int .i64 x4, .slice X5 l5 C5, .slice X6 l6 C6, .bool x7, .int .i64 x8, .slice X9 l9 C9, .slice X10 l10 C10, .slice X11 l11 C11] 109
      have o0 := hO.at 0 _ rfl
      have o1 := hO.at 1 _ rfl
      have o2 := hO.at 2 _ rfl
      have o3 := hO.at 3 _ rfl
      have o4 := hO.at 4 _ rfl
      have o5 := hO.at 5 _ rfl
      have o6 := hO.at 6 _ rfl
      have o7 := hO.at 7 _ rfl
      have o8 := hO.at 8 _ rfl
      have o9 := hO.at 9 _ rfl
      have o10 := hO.at 10 _ rfl
      have o11 := hO.at 11 _ rfl
      have hW2 := hW.below ((Below.refl _ _).alloc (Nat.le_refl _) (.cells #[.int .i64 x0, .slice X1 l1 C1, .int .i64 x2, .int .i64 x3, .int .i64 x4, .slice X5 l5 C5, .slice X6 l6 C6, .bool x7, .int .i64 x8, .slice X9 l9 C9, .slice X10 l10 C10, .slice X11 l11 C11] 109))
      have hR2 := hR.alloc (Nat.le_of_lt hbw) (.cells #[.int .i64 x0, .slice X1 l1 C1, .int .i64 x2, .int .i64 x3, .int .i64 x4, .slice X5 l5 C5, .slice X6 l6 C6, .bool x7, .int .i64 x8, .slice X9 l9 C9, .slice X10 l10 C10, .slice X11 l11 C11] 109)
      replace hW2 := Lib.hid hW2
      clear hW hR hW0 hK0
      go_wp2_with fail
      refine (HX.out _ _ ((Below.refl b wr).alloc (Nat.le_of_lt hbw) _) hW2.out hlim2.out).mono ?_
      rintro e w4 ⟨rfl, hW4, hR4⟩
      replace hW4 := Lib.hid hW4
      go_wp2_with fail
      go_roundw
      case rel => exact ⟨k + 1, hlt, by go_num, by rw [hsn.out]; exact hW4.out, hR2.trans hR4⟩
      case measure => simp [intOf]; omega
    · obtain rfl : k = l.length := by omega
      rw [List.take_length] at hW
      have i1' : ¬ (l.length : Int) < (l.length : Int) := by omega
      have hV2 := hV.out
      generalize l.flatMap (showC n) = F at *
      obtain ⟨A9, n9, c9, hK9, hRow⟩ := hW
      have hn9 : n9 = F.length := (Kd.R_reads' hRow).1
      have b0 := hK9.at 0 _ rfl
      have bl9 := hK9.lt
      by_cases h4 : 400 < F.length
      · rw [if_pos h4] at hV2
        subst hV2
        have j4 : (400 : Int) < (n9 : Int) := by omega
        clear hn9 h4
        go_wp2_with fail
        go_ret
        exact ⟨rfl, hB⟩
      · rw [if_neg h4] at hV2
        subst hV2
        have j4 : ¬ (400 : Int) < (n9 : Int) := by omega
        clear hn9 h4
        go_wp2_with fail
        go_ret
        exact ⟨rfl, hB⟩
theorem scriptCheck_calls (n : Nat) (A : Option Addr) (c : Nat) (l : List (CmdN n)) (w : World) (hr : (kCmd n).C w A l.length l) (hw : (l.map (wtC n)).sum ≤ 1048576) (hT : TabC w) :
    Calls Tryd.prog 35 #[.slice A l.length c] w fun e w' => e = .returned (.int .i64 (faultV n l)) ∧ Below w.heap.size w w' := by
  unfold faultV
  by_cases h : errs (fun x => checkC n x 0) l = 0
  · rw [if_pos h]; exact scriptCheck_good n A c l w hr hw h hT
  · rw [if_neg h]; exact scriptCheck_bad n A c l w hr hw _ rfl h
end Go.Proofs.YtijdghplfhfpaaaDoor.H

/- Scripts: the reference's form of a command that is no if. -/
namespace Go.Proofs.YtijdghplfhfpaaaDoor.H
open Go.RowKit Go.Proofs.YtijdghplfhfpaaaDoorW.PrintWords Go.Proofs.YtijdghplfhfpaaaDoorW.PrintLast Go.Proofs.YtijdghplfhfpaaaDoor.U
set_option linter.unusedVariables false
set_option linter.unusedSimpArgs false
set_option maxHeartbeats 1000000 in
set_option maxRecDepth 100000 in
theorem fn1_all (n : Nat) (kd : Int) (A0 : Option Addr) (c0 : Nat) (tx : List ByteArray) (tk mt pt : Int) (A1 : Option Addr) (c1 : Nat) (nm : List ByteArray) (A2 : Option Addr) (c2 : Nat) (ks : List ByteArray) (ov : Bool) (lm : Int) (A3 : Option Addr) (c3 : Nat) (ts : List (TestN n)) (A4 : Option Addr) (c4 : Nat) (th : List (CmdN n)) (A5 : Option Addr) (c5 : Nat) (el : List (CmdN n)) (dp : Int) (w : World) (h1 : ¬ kd < 1) (h10 : ¬ 10 < kd) (hn2 : ¬ kd = 2) (hd : ¬ 6 < dp) (hk : kd = 1) : Calls Tryd.prog 115 #[.agg #[.int .i64 kd, .slice A0 tx.length c0, .int .i64 tk, .int .i64 mt, .int .i64 pt, .slice A1 nm.length c1, .slice A2 ks.length c2, .bool ov, .int .i64 lm, .slice A3 ts.length c3, .slice A4 th.length c4, .slice A5 el.length c5], .int .i64 dp] w (fun e w' => e = .returned (.int .i64 (if tk = 0 ∧ (nm.length = 0 ∧ ks.length = 0 ∧ mt = 0 ∧ pt = 0 ∧ ov = false ∧ lm = 0 ∧ ts.length = 0) ∧ th.length = 0 ∧ el.length = 0 ∧ 0 < tx.length then 0 else 3)) ∧ Below w.heap.size w w') := by
  have HI1 := Lib.hid (fun w => in_yes kd 1 10 w (by omega) (by omega))
  have e2 : (kd != 2) = true := bne_iff_ne.mpr hn2
  have HB := Lib.hid (fun w => tb_A A1 c1 A2 c2 A3 c3 tk mt pt nm ks ov lm ts w)
  have b1 : (kd == 1) = true := by rw [beq_iff_eq]; omega
  have b8 : (kd == 8) = false := by rw [beq_eq_false_iff_ne]; omega
  have b9 : (kd == 9) = false := by rw [beq_eq_false_iff_ne]; omega
  have HI2 := Lib.hid (fun w => in_no kd 5 7 w (by omega))
  clear hk hn2 h1 h10
  by_cases h0 : tk = 0
  · have r0 : (tk == 0) = true := by rw [beq_iff_eq]; exact h0
    by_cases hp : nm.length = 0 ∧ ks.length = 0 ∧ mt = 0 ∧ pt = 0 ∧ ov = false ∧ lm = 0 ∧ ts.length = 0
    · rw [decide_eq_true hp] at HB
      by_cases h4 : th.length = 0
      · have r4 : ((th.length : Int) == 0) = true := by rw [beq_iff_eq]; omega
        by_cases h5 : el.length = 0
        · have r5 : ((el.length : Int) == 0) = true := by rw [beq_iff_eq]; omega
          by_cases ht : 0 < tx.length
          · rw [if_pos ⟨h0, hp, h4, h5, ht⟩]
            have t0 : (0 : Int) < (tx.length : Int) := by omega
            have t1 : 0 < tx.length := ht
            clear h0 hp h4 h5 
            skip
            skip
            have hP : Blk (w.alloc (.cells #[.int .i64 kd, .slice A0 tx.length c0, .int .i64 tk, .int .i64 mt, .int .i64 pt, .slice A1 nm.length c1, .slice A2 ks.length c2, .bool ov, .int .i64 lm, .slice A3 ts.length c3, .slice A4 th.length c4, .slice A5 el.length c5] 109)) w.heap.size [.int .i64 kd, .slice A0 tx.length c0, .int .i64 tk, .int .i64 mt, .int .i64 pt, .slice A1 nm.length c1, .slice A2 ks.length c2, .bool ov, .int .i64 lm, .slice A3 ts.length c3, .slice A4 th.length c4, .slice A5 el.length c5] := Blk.made w _ _
            have hB : Below w.heap.size w (w.alloc (.cells #[.int .i64 kd, .slice A0 tx.length c0, .int .i64 tk, .int .i64 mt, .int .i64 pt, .slice A1 nm.length c1, .slice A2 ks.length c2, .bool ov, .int .i64 lm, .slice A3 ts.length c3, .slice A4 th.length c4, .slice A5 el.length c5] 109)) := (by repeat (first | exact Below.refl _ _ | apply below_alloc | apply pw_below_drewN | apply below_drew1 | (refine Below.setCell ?_ (by first | (simp; done) | (simp; omega) | omega) _) ))
            have p0 := (hP).at 0 _ rfl
            have p1 := (hP).at 1 _ rfl
            have p2 := (hP).at 2 _ rfl
            have p3 := (hP).at 3 _ rfl
            have p4 := (hP).at 4 _ rfl
            have p5 := (hP).at 5 _ rfl
            have p6 := (hP).at 6 _ rfl
            have p7 := (hP).at 7 _ rfl
            have p8 := (hP).at 8 _ rfl
            have p9 := (hP).at 9 _ rfl
            have p10 := (hP).at 10 _ rfl
            have p11 := (hP).at 11 _ rfl
            go_enter Tryd.func115, Tryd.ntmps115
            go_wp2_with (go_at_call 52; (first | with_reducible refine (HI1.out _).mono ?_ | with_reducible refine (HI2.out _).mono ?_); rintro e w9 ⟨rfl, rfl⟩)
            refine (HB.out _).mono ?_
            rintro e w1 ⟨rfl, hb1⟩
            have hP1 := hP.below hb1 hP.lt
            have hB1 := hB.trans (hb1.mono hB.size)
            clear hP hB p0 p1 p2 p3 p4 p5 p6 p7 p8 p9 p10 p11 hb1
            have p0 := (hP1).at 0 _ rfl
            have p1 := (hP1).at 1 _ rfl
            have p2 := (hP1).at 2 _ rfl
            have p3 := (hP1).at 3 _ rfl
            have p4 := (hP1).at 4 _ rfl
            have p5 := (hP1).at 5 _ rfl
            have p6 := (hP1).at 6 _ rfl
            have p7 := (hP1).at 7 _ rfl
            have p8 := (hP1).at 8 _ rfl
            have p9 := (hP1).at 9 _ rfl
            have p10 := (hP1).at 10 _ rfl
            have p11 := (hP1).at 11 _ rfl
            go_wp2_with (go_at_call 52; (first | with_reducible refine (HI1.out _).mono ?_ | with_reducible refine (HI2.out _).mono ?_); rintro e w9 ⟨rfl, rfl⟩)
            go_ret
            exact ⟨rfl, hB1⟩
          · rw [if_neg (fun h => ht h.2.2.2.2)]
            have t0 : ¬ (0 : Int) < (tx.length : Int) := by omega
            have t1 : ¬ 0 < tx.length := ht
            clear h0 hp h4 h5 
            skip
            skip
            have hP : Blk (w.alloc (.cells #[.int .i64 kd, .slice A0 tx.length c0, .int .i64 tk, .int .i64 mt, .int .i64 pt, .slice A1 nm.length c1, .slice A2 ks.length c2, .bool ov, .int .i64 lm, .slice A3 ts.length c3, .slice A4 th.length c4, .slice A5 el.length c5] 109)) w.heap.size [.int .i64 kd, .slice A0 tx.length c0, .int .i64 tk, .int .i64 mt, .int .i64 pt, .slice A1 nm.length c1, .slice A2 ks.length c2, .bool ov, .int .i64 lm, .slice A3 ts.length c3, .slice A4 th.length c4, .slice A5 el.length c5] := Blk.made w _ _
            have hB : Below w.heap.size w (w.alloc (.cells #[.int .i64 kd, .slice A0 tx.length c0, .int .i64 tk, .int .i64 mt, .int .i64 pt, .slice A1 nm.length c1, .slice A2 ks.length c2, .bool ov, .int .i64 lm, .slice A3 ts.length c3, .slice A4 th.length c4, .slice A5 el.length c5] 109)) := (by repeat (first | exact Below.refl _ _ | apply below_alloc | apply pw_below_drewN | apply below_drew1 | (refine Below.setCell ?_ (by first | (simp; done) | (simp; omega) | omega) _) ))
            have p0 := (hP).at 0 _ rfl
            have p1 := (hP).at 1 _ rfl
            have p2 := (hP).at 2 _ rfl
            have p3 := (hP).at 3 _ rfl
            have p4 := (hP).at 4 _ rfl
            have p5 := (hP).at 5 _ rfl
            have p6 := (hP).at 6 _ rfl
            have p7 := (hP).at 7 _ rfl
            have p8 := (hP).at 8 _ rfl
            have p9 := (hP).at 9 _ rfl
            have p10 := (hP).at 10 _ rfl
            have p11 := (hP).at 11 _ rfl
            go_enter Tryd.func115, Tryd.ntmps115
            go_wp2_with (go_at_call 52; (first | with_reducible refine (HI1.out _).mono ?_ | with_reducible refine (HI2.out _).mono ?_); rintro e w9 ⟨rfl, rfl⟩)
            refine (HB.out _).mono ?_
            rintro e w1 ⟨rfl, hb1⟩
            have hP1 := hP.below hb1 hP.lt
            have hB1 := hB.trans (hb1.mono hB.size)
            clear hP hB p0 p1 p2 p3 p4 p5 p6 p7 p8 p9 p10 p11 hb1
            have p0 := (hP1).at 0 _ rfl
            have p1 := (hP1).at 1 _ rfl
            have p2 := (hP1).at 2 _ rfl
            have p3 := (hP1).at 3 _ rfl
            have p4 := (hP1).at 4 _ rfl
            have p5 := (hP1).at 5 _ rfl
            have p6 := (hP1).at 6 _ rfl
            have p7 := (hP1).at 7 _ rfl
            have p8 := (hP1).at 8 _ rfl
            have p9 := (hP1).at 9 _ rfl
            have p10 := (hP1).at 10 _ rfl
            have p11 := (hP1).at 11 _ rfl
            go_wp2_with (go_at_call 52; (first | with_reducible refine (HI1.out _).mono ?_ | with_reducible refine (HI2.out _).mono ?_); rintro e w9 ⟨rfl, rfl⟩)
            go_ret
            exact ⟨rfl, hB1⟩
        · rw [if_neg (fun h => h5 h.2.2.2.1)]
          have r5 : ((el.length : Int) == 0) = false := by rw [beq_eq_false_iff_ne]; omega
          clear h0 hp h4 h5
          skip
          skip
          have hP : Blk (w.alloc (.cells #[.int .i64 kd, .slice A0 tx.length c0, .int .i64 tk, .int .i64 mt, .int .i64 pt, .slice A1 nm.length c1, .slice A2 ks.length c2, .bool ov, .int .i64 lm, .slice A3 ts.length c3, .slice A4 th.length c4, .slice A5 el.length c5] 109)) w.heap.size [.int .i64 kd, .slice A0 tx.length c0, .int .i64 tk, .int .i64 mt, .int .i64 pt, .slice A1 nm.length c1, .slice A2 ks.length c2, .bool ov, .int .i64 lm, .slice A3 ts.length c3, .slice A4 th.length c4, .slice A5 el.length c5] := Blk.made w _ _
          have hB : Below w.heap.size w (w.alloc (.cells #[.int .i64 kd, .slice A0 tx.length c0, .int .i64 tk, .int .i64 mt, .int .i64 pt, .slice A1 nm.length c1, .slice A2 ks.length c2, .bool ov, .int .i64 lm, .slice A3 ts.length c3, .slice A4 th.length c4, .slice A5 el.length c5] 109)) := (by repeat (first | exact Below.refl _ _ | apply below_alloc | apply pw_below_drewN | apply below_drew1 | (refine Below.setCell ?_ (by first | (simp; done) | (simp; omega) | omega) _) ))
          have p0 := (hP).at 0 _ rfl
          have p1 := (hP).at 1 _ rfl
          have p2 := (hP).at 2 _ rfl
          have p3 := (hP).at 3 _ rfl
          have p4 := (hP).at 4 _ rfl
          have p5 := (hP).at 5 _ rfl
          have p6 := (hP).at 6 _ rfl
          have p7 := (hP).at 7 _ rfl
          have p8 := (hP).at 8 _ rfl
          have p9 := (hP).at 9 _ rfl
          have p10 := (hP).at 10 _ rfl
          have p11 := (hP).at 11 _ rfl
          go_enter Tryd.func115, Tryd.ntmps115
          go_wp2_with (go_at_call 52; (first | with_reducible refine (HI1.out _).mono ?_ | with_reducible refine (HI2.out _).mono ?_); rintro e w9 ⟨rfl, rfl⟩)
          refine (HB.out _).mono ?_
          rintro e w1 ⟨rfl, hb1⟩
          have hP1 := hP.below hb1 hP.lt
          have hB1 := hB.trans (hb1.mono hB.size)
          clear hP hB p0 p1 p2 p3 p4 p5 p6 p7 p8 p9 p10 p11 hb1
          have p0 := (hP1).at 0 _ rfl
          have p1 := (hP1).at 1 _ rfl
          have p2 := (hP1).at 2 _ rfl
          have p3 := (hP1).at 3 _ rfl
          have p4 := (hP1).at 4 _ rfl
          have p5 := (hP1).at 5 _ rfl
          have p6 := (hP1).at 6 _ rfl
          have p7 := (hP1).at 7 _ rfl
          have p8 := (hP1).at 8 _ rfl
          have p9 := (hP1).at 9 _ rfl
          have p10 := (hP1).at 10 _ rfl
          have p11 := (hP1).at 11 _ rfl
          go_wp2_with (go_at_call 52; (first | with_reducible refine (HI1.out _).mono ?_ | with_reducible refine (HI2.out _).mono ?_); rintro e w9 ⟨rfl, rfl⟩)
          go_ret
          exact ⟨rfl, hB1⟩
      · rw [if_neg (fun h => h4 h.2.2.1)]
        have r4 : ((th.length : Int) == 0) = false := by rw [beq_eq_false_iff_ne]; omega
        clear h0 hp h4
        skip
        skip
        have hP : Blk (w.alloc (.cells #[.int .i64 kd, .slice A0 tx.length c0, .int .i64 tk, .int .i64 mt, .int .i64 pt, .slice A1 nm.length c1, .slice A2 ks.length c2, .bool ov, .int .i64 lm, .slice A3 ts.length c3, .slice A4 th.length c4, .slice A5 el.length c5] 109)) w.heap.size [.int .i64 kd, .slice A0 tx.length c0, .int .i64 tk, .int .i64 mt, .int .i64 pt, .slice A1 nm.length c1, .slice A2 ks.length c2, .bool ov, .int .i64 lm, .slice A3 ts.length c3, .slice A4 th.length c4, .slice A5 el.length c5] := Blk.made w _ _
        have hB : Below w.heap.size w (w.alloc (.cells #[.int .i64 kd, .slice A0 tx.length c0, .int .i64 tk, .int .i64 mt, .int .i64 pt, .slice A1 nm.length c1, .slice A2 ks.length c2, .bool ov, .int .i64 lm, .slice A3 ts.length c3, .slice A4 th.length c4, .slice A5 el.length c5] 109)) := (by repeat (first | exact Below.refl _ _ | apply below_alloc | apply pw_below_drewN | apply below_drew1 | (refine Below.setCell ?_ (by first | (simp; done) | (simp; omega) | omega) _) ))
        have p0 := (hP).at 0 _ rfl
        have p1 := (hP).at 1 _ rfl
        have p2 := (hP).at 2 _ rfl
        have p3 := (hP).at 3 _ rfl
        have p4 := (hP).at 4 _ rfl
        have p5 := (hP).at 5 _ rfl
        have p6 := (hP).at 6 _ rfl
        have p7 := (hP).at 7 _ rfl
        have p8 := (hP).at 8 _ rfl
        have p9 := (hP).at 9 _ rfl
        have p10 := (hP).at 10 _ rfl
        have p11 := (hP).at 11 _ rfl
        go_enter Tryd.func115, Tryd.ntmps115
        go_wp2_with (go_at_call 52; (first | with_reducible refine (HI1.out _).mono ?_ | with_reducible refine (HI2.out _).mono ?_); rintro e w9 ⟨rfl, rfl⟩)
        refine (HB.out _).mono ?_
        rintro e w1 ⟨rfl, hb1⟩
        have hP1 := hP.below hb1 hP.lt
        have hB1 := hB.trans (hb1.mono hB.size)
        clear hP hB p0 p1 p2 p3 p4 p5 p6 p7 p8 p9 p10 p11 hb1
        have p0 := (hP1).at 0 _ rfl
        have p1 := (hP1).at 1 _ rfl
        have p2 := (hP1).at 2 _ rfl
        have p3 := (hP1).at 3 _ rfl
        have p4 := (hP1).at 4 _ rfl
        have p5 := (hP1).at 5 _ rfl
        have p6 := (hP1).at 6 _ rfl
        have p7 := (hP1).at 7 _ rfl
        have p8 := (hP1).at 8 _ rfl
        have p9 := (hP1).at 9 _ rfl
        have p10 := (hP1).at 10 _ rfl
        have p11 := (hP1).at 11 _ rfl
        go_wp2_with (go_at_call 52; (first | with_reducible refine (HI1.out _).mono ?_ | with_reducible refine (HI2.out _).mono ?_); rintro e w9 ⟨rfl, rfl⟩)
        go_ret
        exact ⟨rfl, hB1⟩
    · rw [decide_eq_false hp] at HB
      rw [if_neg (fun h => hp h.2.1)]
      clear h0 hp
      skip
      skip
      have hP : Blk (w.alloc (.cells #[.int .i64 kd, .slice A0 tx.length c0, .int .i64 tk, .int .i64 mt, .int .i64 pt, .slice A1 nm.length c1, .slice A2 ks.length c2, .bool ov, .int .i64 lm, .slice A3 ts.length c3, .slice A4 th.length c4, .slice A5 el.length c5] 109)) w.heap.size [.int .i64 kd, .slice A0 tx.length c0, .int .i64 tk, .int .i64 mt, .int .i64 pt, .slice A1 nm.length c1, .slice A2 ks.length c2, .bool ov, .int .i64 lm, .slice A3 ts.length c3, .slice A4 th.length c4, .slice A5 el.length c5] := Blk.made w _ _
      have hB : Below w.heap.size w (w.alloc (.cells #[.int .i64 kd, .slice A0 tx.length c0, .int .i64 tk, .int .i64 mt, .int .i64 pt, .slice A1 nm.length c1, .slice A2 ks.length c2, .bool ov, .int .i64 lm, .slice A3 ts.length c3, .slice A4 th.length c4, .slice A5 el.length c5] 109)) := (by repeat (first | exact Below.refl _ _ | apply below_alloc | apply pw_below_drewN | apply below_drew1 | (refine Below.setCell ?_ (by first | (simp; done) | (simp; omega) | omega) _) ))
      have p0 := (hP).at 0 _ rfl
      have p1 := (hP).at 1 _ rfl
      have p2 := (hP).at 2 _ rfl
      have p3 := (hP).at 3 _ rfl
      have p4 := (hP).at 4 _ rfl
      have p5 := (hP).at 5 _ rfl
      have p6 := (hP).at 6 _ rfl
      have p7 := (hP).at 7 _ rfl
      have p8 := (hP).at 8 _ rfl
      have p9 := (hP).at 9 _ rfl
      have p10 := (hP).at 10 _ rfl
      have p11 := (hP).at 11 _ rfl
      go_enter Tryd.func115, Tryd.ntmps115
      go_wp2_with (go_at_call 52; (first | with_reducible refine (HI1.out _).mono ?_ | with_reducible refine (HI2.out _).mono ?_); rintro e w9 ⟨rfl, rfl⟩)
      refine (HB.out _).mono ?_
      rintro e w1 ⟨rfl, hb1⟩
      have hP1 := hP.below hb1 hP.lt
      have hB1 := hB.trans (hb1.mono hB.size)
      clear hP hB p0 p1 p2 p3 p4 p5 p6 p7 p8 p9 p10 p11 hb1
      have p0 := (hP1).at 0 _ rfl
      have p1 := (hP1).at 1 _ rfl
      have p2 := (hP1).at 2 _ rfl
      have p3 := (hP1).at 3 _ rfl
      have p4 := (hP1).at 4 _ rfl
      have p5 := (hP1).at 5 _ rfl
      have p6 := (hP1).at 6 _ rfl
      have p7 := (hP1).at 7 _ rfl
      have p8 := (hP1).at 8 _ rfl
      have p9 := (hP1).at 9 _ rfl
      have p10 := (hP1).at 10 _ rfl
      have p11 := (hP1).at 11 _ rfl
      go_wp2_with (go_at_call 52; (first | with_reducible refine (HI1.out _).mono ?_ | with_reducible refine (HI2.out _).mono ?_); rintro e w9 ⟨rfl, rfl⟩)
      go_ret
      exact ⟨rfl, hB1⟩
  · rw [if_neg (fun h => h0 h.1)]
    have r0 : (tk == 0) = false := by rw [beq_eq_false_iff_ne]; exact h0
    clear h0
    skip
    skip
    have hP : Blk (w.alloc (.cells #[.int .i64 kd, .slice A0 tx.length c0, .int .i64 tk, .int .i64 mt, .int .i64 pt, .slice A1 nm.length c1, .slice A2 ks.length c2, .bool ov, .int .i64 lm, .slice A3 ts.length c3, .slice A4 th.length c4, .slice A5 el.length c5] 109)) w.heap.size [.int .i64 kd, .slice A0 tx.length c0, .int .i64 tk, .int .i64 mt, .int .i64 pt, .slice A1 nm.length c1, .slice A2 ks.length c2, .bool ov, .int .i64 lm, .slice A3 ts.length c3, .slice A4 th.length c4, .slice A5 el.length c5] := Blk.made w _ _
    have hB : Below w.heap.size w (w.alloc (.cells #[.int .i64 kd, .slice A0 tx.length c0, .int .i64 tk, .int .i64 mt, .int .i64 pt, .slice A1 nm.length c1, .slice A2 ks.length c2, .bool ov, .int .i64 lm, .slice A3 ts.length c3, .slice A4 th.length c4, .slice A5 el.length c5] 109)) := (by repeat (first | exact Below.refl _ _ | apply below_alloc | apply pw_below_drewN | apply below_drew1 | (refine Below.setCell ?_ (by first | (simp; done) | (simp; omega) | omega) _) ))
    have p0 := (hP).at 0 _ rfl
    have p1 := (hP).at 1 _ rfl
    have p2 := (hP).at 2 _ rfl
    have p3 := (hP).at 3 _ rfl
    have p4 := (hP).at 4 _ rfl
    have p5 := (hP).at 5 _ rfl
    have p6 := (hP).at 6 _ rfl
    have p7 := (hP).at 7 _ rfl
    have p8 := (hP).at 8 _ rfl
    have p9 := (hP).at 9 _ rfl
    have p10 := (hP).at 10 _ rfl
    have p11 := (hP).at 11 _ rfl
    go_enter Tryd.func115, Tryd.ntmps115
    go_wp2_with (go_at_call 52; (first | with_reducible refine (HI1.out _).mono ?_ | with_reducible refine (HI2.out _).mono ?_); rintro e w9 ⟨rfl, rfl⟩)
    go_ret
    exact ⟨rfl, hB⟩
set_option maxHeartbeats 1000000 in
set_option maxRecDepth 100000 in
theorem fn8_all (n : Nat) (kd : Int) (A0 : Option Addr) (c0 : Nat) (tx : List ByteArray) (tk mt pt : Int) (A1 : Option Addr) (c1 : Nat) (nm : List ByteArray) (A2 : Option Addr) (c2 : Nat) (ks : List ByteArray) (ov : Bool) (lm : Int) (A3 : Option Addr) (c3 : Nat) (ts : List (TestN n)) (A4 : Option Addr) (c4 : Nat) (th : List (CmdN n)) (A5 : Option Addr) (c5 : Nat) (el : List (CmdN n)) (dp : Int) (w : World) (h1 : ¬ kd < 1) (h10 : ¬ 10 < kd) (hn2 : ¬ kd = 2) (hd : ¬ 6 < dp) (hk : kd = 8) : Calls Tryd.prog 115 #[.agg #[.int .i64 kd, .slice A0 tx.length c0, .int .i64 tk, .int .i64 mt, .int .i64 pt, .slice A1 nm.length c1, .slice A2 ks.length c2, .bool ov, .int .i64 lm, .slice A3 ts.length c3, .slice A4 th.length c4, .slice A5 el.length c5], .int .i64 dp] w (fun e w' => e = .returned (.int .i64 (if tk = 0 ∧ (nm.length = 0 ∧ ks.length = 0 ∧ mt = 0 ∧ pt = 0 ∧ ov = false ∧ lm = 0 ∧ ts.length = 0) ∧ th.length = 0 ∧ el.length = 0 ∧ 0 < tx.length then 0 else 3)) ∧ Below w.heap.size w w') := by
  have HI1 := Lib.hid (fun w => in_yes kd 1 10 w (by omega) (by omega))
  have e2 : (kd != 2) = true := bne_iff_ne.mpr hn2
  have HB := Lib.hid (fun w => tb_A A1 c1 A2 c2 A3 c3 tk mt pt nm ks ov lm ts w)
  have b1 : (kd == 1) = false := by rw [beq_eq_false_iff_ne]; omega
  have b8 : (kd == 8) = true := by rw [beq_iff_eq]; omega
  have b9 : (kd == 9) = false := by rw [beq_eq_false_iff_ne]; omega
  have HI2 := Lib.hid (fun w => in_no kd 5 7 w (by omega))
  clear hk hn2 h1 h10
  by_cases h0 : tk = 0
  · have r0 : (tk == 0) = true := by rw [beq_iff_eq]; exact h0
    by_cases hp : nm.length = 0 ∧ ks.length = 0 ∧ mt = 0 ∧ pt = 0 ∧ ov = false ∧ lm = 0 ∧ ts.length = 0
    · rw [decide_eq_true hp] at HB
      by_cases h4 : th.length = 0
      · have r4 : ((th.length : Int) == 0) = true := by rw [beq_iff_eq]; omega
        by_cases h5 : el.length = 0
        · have r5 : ((el.length : Int) == 0) = true := by rw [beq_iff_eq]; omega
          by_cases ht : 0 < tx.length
          · rw [if_pos ⟨h0, hp, h4, h5, ht⟩]
            have t0 : (0 : Int) < (tx.length : Int) := by omega
            have t1 : 0 < tx.length := ht
            clear h0 hp h4 h5 
            skip
            skip
            have hP : Blk (w.alloc (.cells #[.int .i64 kd, .slice A0 tx.length c0, .int .i64 tk, .int .i64 mt, .int .i64 pt, .slice A1 nm.length c1, .slice A2 ks.length c2, .bool ov, .int .i64 lm, .slice A3 ts.length c3, .slice A4 th.length c4, .slice A5 el.length c5] 109)) w.heap.size [.int .i64 kd, .slice A0 tx.length c0, .int .i64 tk, .int .i64 mt, .int .i64 pt, .slice A1 nm.length c1, .slice A2 ks.length c2, .bool ov, .int .i64 lm, .slice A3 ts.length c3, .slice A4 th.length c4, .slice A5 el.length c5] := Blk.made w _ _
            have hB : Below w.heap.size w (w.alloc (.cells #[.int .i64 kd, .slice A0 tx.length c0, .int .i64 tk, .int .i64 mt, .int .i64 pt, .slice A1 nm.length c1, .slice A2 ks.length c2, .bool ov, .int .i64 lm, .slice A3 ts.length c3, .slice A4 th.length c4, .slice A5 el.length c5] 109)) := (by repeat (first | exact Below.refl _ _ | apply below_alloc | apply pw_below_drewN | apply below_drew1 | (refine Below.setCell ?_ (by first | (simp; done) | (simp; omega) | omega) _) ))
            have p0 := (hP).at 0 _ rfl
            have p1 := (hP).at 1 _ rfl
            have p2 := (hP).at 2 _ rfl
            have p3 := (hP).at 3 _ rfl
            have p4 := (hP).at 4 _ rfl
            have p5 := (hP).at 5 _ rfl
            have p6 := (hP).at 6 _ rfl
            have p7 := (hP).at 7 _ rfl
            have p8 := (hP).at 8 _ rfl
            have p9 := (hP).at 9 _ rfl
            have p10 := (hP).at 10 _ rfl
            have p11 := (hP).at 11 _ rfl
            go_enter Tryd.func115, Tryd.ntmps115
            go_wp2_with (go_at_call 52; (first | with_reducible refine (HI1.out _).mono ?_ | with_reducible refine (HI2.out _).mono ?_); rintro e w9 ⟨rfl, rfl⟩)
            refine (HB.out _).mono ?_
            rintro e w1 ⟨rfl, hb1⟩
            have hP1 := hP.below hb1 hP.lt
            have hB1 := hB.trans (hb1.mono hB.size)
            clear hP hB p0 p1 p2 p3 p4 p5 p6 p7 p8 p9 p10 p11 hb1
            have p0 := (hP1).at 0 _ rfl
            have p1 := (hP1).at 1 _ rfl
            have p2 := (hP1).at 2 _ rfl
            have p3 := (hP1).at 3 _ rfl
            have p4 := (hP1).at 4 _ rfl
            have p5 := (hP1).at 5 _ rfl
            have p6 := (hP1).at 6 _ rfl
            have p7 := (hP1).at 7 _ rfl
            have p8 := (hP1).at 8 _ rfl
            have p9 := (hP1).at 9 _ rfl
            have p10 := (hP1).at 10 _ rfl
            have p11 := (hP1).at 11 _ rfl
            go_wp2_with (go_at_call 52; (first | with_reducible refine (HI1.out _).mono ?_ | with_reducible refine (HI2.out _).mono ?_); rintro e w9 ⟨rfl, rfl⟩)
            go_ret
            exact ⟨rfl, hB1⟩
          · rw [if_neg (fun h => ht h.2.2.2.2)]
            have t0 : ¬ (0 : Int) < (tx.length : Int) := by omega
            have t1 : ¬ 0 < tx.length := ht
            clear h0 hp h4 h5 
            skip
            skip
            have hP : Blk (w.alloc (.cells #[.int .i64 kd, .slice A0 tx.length c0, .int .i64 tk, .int .i64 mt, .int .i64 pt, .slice A1 nm.length c1, .slice A2 ks.length c2, .bool ov, .int .i64 lm, .slice A3 ts.length c3, .slice A4 th.length c4, .slice A5 el.length c5] 109)) w.heap.size [.int .i64 kd, .slice A0 tx.length c0, .int .i64 tk, .int .i64 mt, .int .i64 pt, .slice A1 nm.length c1, .slice A2 ks.length c2, .bool ov, .int .i64 lm, .slice A3 ts.length c3, .slice A4 th.length c4, .slice A5 el.length c5] := Blk.made w _ _
            have hB : Below w.heap.size w (w.alloc (.cells #[.int .i64 kd, .slice A0 tx.length c0, .int .i64 tk, .int .i64 mt, .int .i64 pt, .slice A1 nm.length c1, .slice A2 ks.length c2, .bool ov, .int .i64 lm, .slice A3 ts.length c3, .slice A4 th.length c4, .slice A5 el.length c5] 109)) := (by repeat (first | exact Below.refl _ _ | apply below_alloc | apply pw_below_drewN | apply below_drew1 | (refine Below.setCell ?_ (by first | (simp; done) | (simp; omega) | omega) _) ))
            have p0 := (hP).at 0 _ rfl
            have p1 := (hP).at 1 _ rfl
            have p2 := (hP).at 2 _ rfl
            have p3 := (hP).at 3 _ rfl
            have p4 := (hP).at 4 _ rfl
            have p5 := (hP).at 5 _ rfl
            have p6 := (hP).at 6 _ rfl
            have p7 := (hP).at 7 _ rfl
            have p8 := (hP).at 8 _ rfl
            have p9 := (hP).at 9 _ rfl
            have p10 := (hP).at 10 _ rfl
            have p11 := (hP).at 11 _ rfl
            go_enter Tryd.func115, Tryd.ntmps115
            go_wp2_with (go_at_call 52; (first | with_reducible refine (HI1.out _).mono ?_ | with_reducible refine (HI2.out _).mono ?_); rintro e w9 ⟨rfl, rfl⟩)
            refine (HB.out _).mono ?_
            rintro e w1 ⟨rfl, hb1⟩
            have hP1 := hP.below hb1 hP.lt
            have hB1 := hB.trans (hb1.mono hB.size)
            clear hP hB p0 p1 p2 p3 p4 p5 p6 p7 p8 p9 p10 p11 hb1
            have p0 := (hP1).at 0 _ rfl
            have p1 := (hP1).at 1 _ rfl
            have p2 := (hP1).at 2 _ rfl
            have p3 := (hP1).at 3 _ rfl
            have p4 := (hP1).at 4 _ rfl
            have p5 := (hP1).at 5 _ rfl
            have p6 := (hP1).at 6 _ rfl
            have p7 := (hP1).at 7 _ rfl
            have p8 := (hP1).at 8 _ rfl
            have p9 := (hP1).at 9 _ rfl
            have p10 := (hP1).at 10 _ rfl
            have p11 := (hP1).at 11 _ rfl
            go_wp2_with (go_at_call 52; (first | with_reducible refine (HI1.out _).mono ?_ | with_reducible refine (HI2.out _).mono ?_); rintro e w9 ⟨rfl, rfl⟩)
            go_ret
            exact ⟨rfl, hB1⟩
        · rw [if_neg (fun h => h5 h.2.2.2.1)]
          have r5 : ((el.length : Int) == 0) = false := by rw [beq_eq_false_iff_ne]; omega
          clear h0 hp h4 h5
          skip
          skip
          have hP : Blk (w.alloc (.cells #[.int .i64 kd, .slice A0 tx.length c0, .int .i64 tk, .int .i64 mt, .int .i64 pt, .slice A1 nm.length c1, .slice A2 ks.length c2, .bool ov, .int .i64 lm, .slice A3 ts.length c3, .slice A4 th.length c4, .slice A5 el.length c5] 109)) w.heap.size [.int .i64 kd, .slice A0 tx.length c0, .int .i64 tk, .int .i64 mt, .int .i64 pt, .slice A1 nm.length c1, .slice A2 ks.length c2, .bool ov, .int .i64 lm, .slice A3 ts.length c3, .slice A4 th.length c4, .slice A5 el.length c5] := Blk.made w _ _
          have hB : Below w.heap.size w (w.alloc (.cells #[.int .i64 kd, .slice A0 tx.length c0, .int .i64 tk, .int .i64 mt, .int .i64 pt, .slice A1 nm.length c1, .slice A2 ks.length c2, .bool ov, .int .i64 lm, .slice A3 ts.length c3, .slice A4 th.length c4, .slice A5 el.length c5] 109)) := (by repeat (first | exact Below.refl _ _ | apply below_alloc | apply pw_below_drewN | apply below_drew1 | (refine Below.setCell ?_ (by first | (simp; done) | (simp; omega) | omega) _) ))
          have p0 := (hP).at 0 _ rfl
          have p1 := (hP).at 1 _ rfl
          have p2 := (hP).at 2 _ rfl
          have p3 := (hP).at 3 _ rfl
          have p4 := (hP).at 4 _ rfl
          have p5 := (hP).at 5 _ rfl
          have p6 := (hP).at 6 _ rfl
          have p7 := (hP).at 7 _ rfl
          have p8 := (hP).at 8 _ rfl
          have p9 := (hP).at 9 _ rfl
          have p10 := (hP).at 10 _ rfl
          have p11 := (hP).at 11 _ rfl
          go_enter Tryd.func115, Tryd.ntmps115
          go_wp2_with (go_at_call 52; (first | with_reducible refine (HI1.out _).mono ?_ | with_reducible refine (HI2.out _).mono ?_); rintro e w9 ⟨rfl, rfl⟩)
          refine (HB.out _).mono ?_
          rintro e w1 ⟨rfl, hb1⟩
          have hP1 := hP.below hb1 hP.lt
          have hB1 := hB.trans (hb1.mono hB.size)
          clear hP hB p0 p1 p2 p3 p4 p5 p6 p7 p8 p9 p10 p11 hb1
          have p0 := (hP1).at 0 _ rfl
          have p1 := (hP1).at 1 _ rfl
          have p2 := (hP1).at 2 _ rfl
          have p3 := (hP1).at 3 _ rfl
          have p4 := (hP1).at 4 _ rfl
          have p5 := (hP1).at 5 _ rfl
          have p6 := (hP1).at 6 _ rfl
          have p7 := (hP1).at 7 _ rfl
          have p8 := (hP1).at 8 _ rfl
          have p9 := (hP1).at 9 _ rfl
          have p10 := (hP1).at 10 _ rfl
          have p11 := (hP1).at 11 _ rfl
          go_wp2_with (go_at_call 52; (first | with_reducible refine (HI1.out _).mono ?_ | with_reducible refine (HI2.out _).mono ?_); rintro e w9 ⟨rfl, rfl⟩)
          go_ret
          exact ⟨rfl, hB1⟩
      · rw [if_neg (fun h => h4 h.2.2.1)]
        have r4 : ((th.length : Int) == 0) = false := by rw [beq_eq_false_iff_ne]; omega
        clear h0 hp h4
        skip
        skip
        have hP : Blk (w.alloc (.cells #[.int .i64 kd, .slice A0 tx.length c0, .int .i64 tk, .int .i64 mt, .int .i64 pt, .slice A1 nm.length c1, .slice A2 ks.length c2, .bool ov, .int .i64 lm, .slice A3 ts.length c3, .slice A4 th.length c4, .slice A5 el.length c5] 109)) w.heap.size [.int .i64 kd, .slice A0 tx.length c0, .int .i64 tk, .int .i64 mt, .int .i64 pt, .slice A1 nm.length c1, .slice A2 ks.length c2, .bool ov, .int .i64 lm, .slice A3 ts.length c3, .slice A4 th.length c4, .slice A5 el.length c5] := Blk.made w _ _
        have hB : Below w.heap.size w (w.alloc (.cells #[.int .i64 kd, .slice A0 tx.length c0, .int .i64 tk, .int .i64 mt, .int .i64 pt, .slice A1 nm.length c1, .slice A2 ks.length c2, .bool ov, .int .i64 lm, .slice A3 ts.length c3, .slice A4 th.length c4, .slice A5 el.length c5] 109)) := (by repeat (first | exact Below.refl _ _ | apply below_alloc | apply pw_below_drewN | apply below_drew1 | (refine Below.setCell ?_ (by first | (simp; done) | (simp; omega) | omega) _) ))
        have p0 := (hP).at 0 _ rfl
        have p1 := (hP).at 1 _ rfl
        have p2 := (hP).at 2 _ rfl
        have p3 := (hP).at 3 _ rfl
        have p4 := (hP).at 4 _ rfl
        have p5 := (hP).at 5 _ rfl
        have p6 := (hP).at 6 _ rfl
        have p7 := (hP).at 7 _ rfl
        have p8 := (hP).at 8 _ rfl
        have p9 := (hP).at 9 _ rfl
        have p10 := (hP).at 10 _ rfl
        have p11 := (hP).at 11 _ rfl
        go_enter Tryd.func115, Tryd.ntmps115
        go_wp2_with (go_at_call 52; (first | with_reducible refine (HI1.out _).mono ?_ | with_reducible refine (HI2.out _).mono ?_); rintro e w9 ⟨rfl, rfl⟩)
        refine (HB.out _).mono ?_
        rintro e w1 ⟨rfl, hb1⟩
        have hP1 := hP.below hb1 hP.lt
        have hB1 := hB.trans (hb1.mono hB.size)
        clear hP hB p0 p1 p2 p3 p4 p5 p6 p7 p8 p9 p10 p11 hb1
        have p0 := (hP1).at 0 _ rfl
        have p1 := (hP1).at 1 _ rfl
        have p2 := (hP1).at 2 _ rfl
        have p3 := (hP1).at 3 _ rfl
        have p4 := (hP1).at 4 _ rfl
        have p5 := (hP1).at 5 _ rfl
        have p6 := (hP1).at 6 _ rfl
        have p7 := (hP1).at 7 _ rfl
        have p8 := (hP1).at 8 _ rfl
        have p9 := (hP1).at 9 _ rfl
        have p10 := (hP1).at 10 _ rfl
        have p11 := (hP1).at 11 _ rfl
        go_wp2_with (go_at_call 52; (first | with_reducible refine (HI1.out _).mono ?_ | with_reducible refine (HI2.out _).mono ?_); rintro e w9 ⟨rfl, rfl⟩)
        go_ret
        exact ⟨rfl, hB1⟩
    · rw [decide_eq_false hp] at HB
      rw [if_neg (fun h => hp h.2.1)]
      clear h0 hp
      skip
      skip
      have hP : Blk (w.alloc (.cells #[.int .i64 kd, .slice A0 tx.length c0, .int .i64 tk, .int .i64 mt, .int .i64 pt, .slice A1 nm.length c1, .slice A2 ks.length c2, .bool ov, .int .i64 lm, .slice A3 ts.length c3, .slice A4 th.length c4, .slice A5 el.length c5] 109)) w.heap.size [.int .i64 kd, .slice A0 tx.length c0, .int .i64 tk, .int .i64 mt, .int .i64 pt, .slice A1 nm.length c1, .slice A2 ks.length c2, .bool ov, .int .i64 lm, .slice A3 ts.length c3, .slice A4 th.length c4, .slice A5 el.length c5] := Blk.made w _ _
      have hB : Below w.heap.size w (w.alloc (.cells #[.int .i64 kd, .slice A0 tx.length c0, .int .i64 tk, .int .i64 mt, .int .i64 pt, .slice A1 nm.length c1, .slice A2 ks.length c2, .bool ov, .int .i64 lm, .slice A3 ts.length c3, .slice A4 th.length c4, .slice A5 el.length c5] 109)) := (by repeat (first | exact Below.refl _ _ | apply below_alloc | apply pw_below_drewN | apply below_drew1 | (refine Below.setCell ?_ (by first | (simp; done) | (simp; omega) | omega) _) ))
      have p0 := (hP).at 0 _ rfl
      have p1 := (hP).at 1 _ rfl
      have p2 := (hP).at 2 _ rfl
      have p3 := (hP).at 3 _ rfl
      have p4 := (hP).at 4 _ rfl
      have p5 := (hP).at 5 _ rfl
      have p6 := (hP).at 6 _ rfl
      have p7 := (hP).at 7 _ rfl
      have p8 := (hP).at 8 _ rfl
      have p9 := (hP).at 9 _ rfl
      have p10 := (hP).at 10 _ rfl
      have p11 := (hP).at 11 _ rfl
      go_enter Tryd.func115, Tryd.ntmps115
      go_wp2_with (go_at_call 52; (first | with_reducible refine (HI1.out _).mono ?_ | with_reducible refine (HI2.out _).mono ?_); rintro e w9 ⟨rfl, rfl⟩)
      refine (HB.out _).mono ?_
      rintro e w1 ⟨rfl, hb1⟩
      have hP1 := hP.below hb1 hP.lt
      have hB1 := hB.trans (hb1.mono hB.size)
      clear hP hB p0 p1 p2 p3 p4 p5 p6 p7 p8 p9 p10 p11 hb1
      have p0 := (hP1).at 0 _ rfl
      have p1 := (hP1).at 1 _ rfl
      have p2 := (hP1).at 2 _ rfl
      have p3 := (hP1).at 3 _ rfl
      have p4 := (hP1).at 4 _ rfl
      have p5 := (hP1).at 5 _ rfl
      have p6 := (hP1).at 6 _ rfl
      have p7 := (hP1).at 7 _ rfl
      have p8 := (hP1).at 8 _ rfl
      have p9 := (hP1).at 9 _ rfl
      have p10 := (hP1).at 10 _ rfl
      have p11 := (hP1).at 11 _ rfl
      go_wp2_with (go_at_call 52; (first | with_reducible refine (HI1.out _).mono ?_ | with_reducible refine (HI2.out _).mono ?_); rintro e w9 ⟨rfl, rfl⟩)
      go_ret
      exact ⟨rfl, hB1⟩
  · rw [if_neg (fun h => h0 h.1)]
    have r0 : (tk == 0) = false := by rw [beq_eq_false_iff_ne]; exact h0
    clear h0
    skip
    skip
    have hP : Blk (w.alloc (.cells #[.int .i64 kd, .slice A0 tx.length c0, .int .i64 tk, .int .i64 mt, .int .i64 pt, .slice A1 nm.length c1, .slice A2 ks.length c2, .bool ov, .int .i64 lm, .slice A3 ts.length c3, .slice A4 th.length c4, .slice A5 el.length c5] 109)) w.heap.size [.int .i64 kd, .slice A0 tx.length c0, .int .i64 tk, .int .i64 mt, .int .i64 pt, .slice A1 nm.length c1, .slice A2 ks.length c2, .bool ov, .int .i64 lm, .slice A3 ts.length c3, .slice A4 th.length c4, .slice A5 el.length c5] := Blk.made w _ _
    have hB : Below w.heap.size w (w.alloc (.cells #[.int .i64 kd, .slice A0 tx.length c0, .int .i64 tk, .int .i64 mt, .int .i64 pt, .slice A1 nm.length c1, .slice A2 ks.length c2, .bool ov, .int .i64 lm, .slice A3 ts.length c3, .slice A4 th.length c4, .slice A5 el.length c5] 109)) := (by repeat (first | exact Below.refl _ _ | apply below_alloc | apply pw_below_drewN | apply below_drew1 | (refine Below.setCell ?_ (by first | (simp; done) | (simp; omega) | omega) _) ))
    have p0 := (hP).at 0 _ rfl
    have p1 := (hP).at 1 _ rfl
    have p2 := (hP).at 2 _ rfl
    have p3 := (hP).at 3 _ rfl
    have p4 := (hP).at 4 _ rfl
    have p5 := (hP).at 5 _ rfl
    have p6 := (hP).at 6 _ rfl
    have p7 := (hP).at 7 _ rfl
    have p8 := (hP).at 8 _ rfl
    have p9 := (hP).at 9 _ rfl
    have p10 := (hP).at 10 _ rfl
    have p11 := (hP).at 11 _ rfl
    go_enter Tryd.func115, Tryd.ntmps115
    go_wp2_with (go_at_call 52; (first | with_reducible refine (HI1.out _).mono ?_ | with_reducible refine (HI2.out _).mono ?_); rintro e w9 ⟨rfl, rfl⟩)
    go_ret
    exact ⟨rfl, hB⟩
set_option maxHeartbeats 1000000 in
set_option maxRecDepth 100000 in
theorem fn9_all (n : Nat) (kd : Int) (A0 : Option Addr) (c0 : Nat) (tx : List ByteArray) (tk mt pt : Int) (A1 : Option Addr) (c1 : Nat) (nm : List ByteArray) (A2 : Option Addr) (c2 : Nat) (ks : List ByteArray) (ov : Bool) (lm : Int) (A3 : Option Addr) (c3 : Nat) (ts : List (TestN n)) (A4 : Option Addr) (c4 : Nat) (th : List (CmdN n)) (A5 : Option Addr) (c5 : Nat) (el : List (CmdN n)) (dp : Int) (w : World) (h1 : ¬ kd < 1) (h10 : ¬ 10 < kd) (hn2 : ¬ kd = 2) (hd : ¬ 6 < dp) (hk : kd = 9) : Calls Tryd.prog 115 #[.agg #[.int .i64 kd, .slice A0 tx.length c0, .int .i64 tk, .int .i64 mt, .int .i64 pt, .slice A1 nm.length c1, .slice A2 ks.length c2, .bool ov, .int .i64 lm, .slice A3 ts.length c3, .slice A4 th.length c4, .slice A5 el.length c5], .int .i64 dp] w (fun e w' => e = .returned (.int .i64 (if tk = 0 ∧ (nm.length = 0 ∧ ks.length = 0 ∧ mt = 0 ∧ pt = 0 ∧ ov = false ∧ lm = 0 ∧ ts.length = 0) ∧ th.length = 0 ∧ el.length = 0 ∧ 0 < tx.length then 0 else 3)) ∧ Below w.heap.size w w') := by
  have HI1 := Lib.hid (fun w => in_yes kd 1 10 w (by omega) (by omega))
  have e2 : (kd != 2) = true := bne_iff_ne.mpr hn2
  have HB := Lib.hid (fun w => tb_A A1 c1 A2 c2 A3 c3 tk mt pt nm ks ov lm ts w)
  have b1 : (kd == 1) = false := by rw [beq_eq_false_iff_ne]; omega
  have b8 : (kd == 8) = false := by rw [beq_eq_false_iff_ne]; omega
  have b9 : (kd == 9) = true := by rw [beq_iff_eq]; omega
  have HI2 := Lib.hid (fun w => in_no kd 5 7 w (by omega))
  clear hk hn2 h1 h10
  by_cases h0 : tk = 0
  · have r0 : (tk == 0) = true := by rw [beq_iff_eq]; exact h0
    by_cases hp : nm.length = 0 ∧ ks.length = 0 ∧ mt = 0 ∧ pt = 0 ∧ ov = false ∧ lm = 0 ∧ ts.length = 0
    · rw [decide_eq_true hp] at HB
      by_cases h4 : th.length = 0
      · have r4 : ((th.length : Int) == 0) = true := by rw [beq_iff_eq]; omega
        by_cases h5 : el.length = 0
        · have r5 : ((el.length : Int) == 0) = true := by rw [beq_iff_eq]; omega
          by_cases ht : 0 < tx.length
          · rw [if_pos ⟨h0, hp, h4, h5, ht⟩]
            have t0 : (0 : Int) < (tx.length : Int) := by omega
            have t1 : 0 < tx.length := ht
            clear h0 hp h4 h5 
            skip
            skip
            have hP : Blk (w.alloc (.cells #[.int .i64 kd, .slice A0 tx.length c0, .int .i64 tk, .int .i64 mt, .int .i64 pt, .slice A1 nm.length c1, .slice A2 ks.length c2, .bool ov, .int .i64 lm, .slice A3 ts.length c3, .slice A4 th.length c4, .slice A5 el.length c5] 109)) w.heap.size [.int .i64 kd, .slice A0 tx.length c0, .int .i64 tk, .int .i64 mt, .int .i64 pt, .slice A1 nm.length c1, .slice A2 ks.length c2, .bool ov, .int .i64 lm, .slice A3 ts.length c3, .slice A4 th.length c4, .slice A5 el.length c5] := Blk.made w _ _
            have hB : Below w.heap.size w (w.alloc (.cells #[.int .i64 kd, .slice A0 tx.length c0, .int .i64 tk, .int .i64 mt, .int .i64 pt, .slice A1 nm.length c1, .slice A2 ks.length c2, .bool ov, .int .i64 lm, .slice A3 ts.length c3, .slice A4 th.length c4, .slice A5 el.length c5] 109)) := (by repeat (first | exact Below.refl _ _ | apply below_alloc | apply pw_below_drewN | apply below_drew1 | (refine Below.setCell ?_ (by first | (simp; done) | (simp; omega) | omega) _) ))
            have p0 := (hP).at 0 _ rfl
            have p1 := (hP).at 1 _ rfl
            have p2 := (hP).at 2 _ rfl
            have p3 := (hP).at 3 _ rfl
            have p4 := (hP).at 4 _ rfl
            have p5 := (hP).at 5 _ rfl
            have p6 := (hP).at 6 _ rfl
            have p7 := (hP).at 7 _ rfl
            have p8 := (hP).at 8 _ rfl
            have p9 := (hP).at 9 _ rfl
            have p10 := (hP).at 10 _ rfl
            have p11 := (hP).at 11 _ rfl
            go_enter Tryd.func115, Tryd.ntmps115
            go_wp2_with (go_at_call 52; (first | with_reducible refine (HI1.out _).mono ?_ | with_reducible refine (HI2.out _).mono ?_); rintro e w9 ⟨rfl, rfl⟩)
            refine (HB.out _).mono ?_
            rintro e w1 ⟨rfl, hb1⟩
            have hP1 := hP.below hb1 hP.lt
            have hB1 := hB.trans (hb1.mono hB.size)
            clear hP hB p0 p1 p2 p3 p4 p5 p6 p7 p8 p9 p10 p11 hb1
            have p0 := (hP1).at 0 _ rfl
            have p1 := (hP1).at 1 _ rfl
            have p2 := (hP1).at 2 _ rfl
            have p3 := (hP1).at 3 _ rfl
            have p4 := (hP1).at 4 _ rfl
            have p5 := (hP1).at 5 _ rfl
            have p6 := (hP1).at 6 _ rfl
            have p7 := (hP1).at 7 _ rfl
            have p8 := (hP1).at 8 _ rfl
            have p9 := (hP1).at 9 _ rfl
            have p10 := (hP1).at 10 _ rfl
            have p11 := (hP1).at 11 _ rfl
            go_wp2_with (go_at_call 52; (first | with_reducible refine (HI1.out _).mono ?_ | with_reducible refine (HI2.out _).mono ?_); rintro e w9 ⟨rfl, rfl⟩)
            go_ret
            exact ⟨rfl, hB1⟩
          · rw [if_neg (fun h => ht h.2.2.2.2)]
            have t0 : ¬ (0 : Int) < (tx.length : Int) := by omega
            have t1 : ¬ 0 < tx.length := ht
            clear h0 hp h4 h5 
            skip
            skip
            have hP : Blk (w.alloc (.cells #[.int .i64 kd, .slice A0 tx.length c0, .int .i64 tk, .int .i64 mt, .int .i64 pt, .slice A1 nm.length c1, .slice A2 ks.length c2, .bool ov, .int .i64 lm, .slice A3 ts.length c3, .slice A4 th.length c4, .slice A5 el.length c5] 109)) w.heap.size [.int .i64 kd, .slice A0 tx.length c0, .int .i64 tk, .int .i64 mt, .int .i64 pt, .slice A1 nm.length c1, .slice A2 ks.length c2, .bool ov, .int .i64 lm, .slice A3 ts.length c3, .slice A4 th.length c4, .slice A5 el.length c5] := Blk.made w _ _
            have hB : Below w.heap.size w (w.alloc (.cells #[.int .i64 kd, .slice A0 tx.length c0, .int .i64 tk, .int .i64 mt, .int .i64 pt, .slice A1 nm.length c1, .slice A2 ks.length c2, .bool ov, .int .i64 lm, .slice A3 ts.length c3, .slice A4 th.length c4, .slice A5 el.length c5] 109)) := (by repeat (first | exact Below.refl _ _ | apply below_alloc | apply pw_below_drewN | apply below_drew1 | (refine Below.setCell ?_ (by first | (simp; done) | (simp; omega) | omega) _) ))
            have p0 := (hP).at 0 _ rfl
            have p1 := (hP).at 1 _ rfl
            have p2 := (hP).at 2 _ rfl
            have p3 := (hP).at 3 _ rfl
            have p4 := (hP).at 4 _ rfl
            have p5 := (hP).at 5 _ rfl
            have p6 := (hP).at 6 _ rfl
            have p7 := (hP).at 7 _ rfl
            have p8 := (hP).at 8 _ rfl
            have p9 := (hP).at 9 _ rfl
            have p10 := (hP).at 10 _ rfl
            have p11 := (hP).at 11 _ rfl
            go_enter Tryd.func115, Tryd.ntmps115
            go_wp2_with (go_at_call 52; (first | with_reducible refine (HI1.out _).mono ?_ | with_reducible refine (HI2.out _).mono ?_); rintro e w9 ⟨rfl, rfl⟩)
            refine (HB.out _).mono ?_
            rintro e w1 ⟨rfl, hb1⟩
            have hP1 := hP.below hb1 hP.lt
            have hB1 := hB.trans (hb1.mono hB.size)
            clear hP hB p0 p1 p2 p3 p4 p5 p6 p7 p8 p9 p10 p11 hb1
            have p0 := (hP1).at 0 _ rfl
            have p1 := (hP1).at 1 _ rfl
            have p2 := (hP1).at 2 _ rfl
            have p3 := (hP1).at 3 _ rfl
            have p4 := (hP1).at 4 _ rfl
            have p5 := (hP1).at 5 _ rfl
            have p6 := (hP1).at 6 _ rfl
            have p7 := (hP1).at 7 _ rfl
            have p8 := (hP1).at 8 _ rfl
            have p9 := (hP1).at 9 _ rfl
            have p10 := (hP1).at 10 _ rfl
            have p11 := (hP1).at 11 _ rfl
            go_wp2_with (go_at_call 52; (first | with_reducible refine (HI1.out _).mono ?_ | with_reducible refine (HI2.out _).mono ?_); rintro e w9 ⟨rfl, rfl⟩)
            go_ret
            exact ⟨rfl, hB1⟩
        · rw [if_neg (fun h => h5 h.2.2.2.1)]
          have r5 : ((el.length : Int) == 0) = false := by rw [beq_eq_false_iff_ne]; omega
          clear h0 hp h4 h5
          skip
          skip
          have hP : Blk (w.alloc (.cells #[.int .i64 kd, .slice A0 tx.length c0, .int .i64 tk, .int .i64 mt, .int .i64 pt, .slice A1 nm.length c1, .slice A2 ks.length c2, .bool ov, .int .i64 lm, .slice A3 ts.length c3, .slice A4 th.length c4, .slice A5 el.length c5] 109)) w.heap.size [.int .i64 kd, .slice A0 tx.length c0, .int .i64 tk, .int .i64 mt, .int .i64 pt, .slice A1 nm.length c1, .slice A2 ks.length c2, .bool ov, .int .i64 lm, .slice A3 ts.length c3, .slice A4 th.length c4, .slice A5 el.length c5] := Blk.made w _ _
          have hB : Below w.heap.size w (w.alloc (.cells #[.int .i64 kd, .slice A0 tx.length c0, .int .i64 tk, .int .i64 mt, .int .i64 pt, .slice A1 nm.length c1, .slice A2 ks.length c2, .bool ov, .int .i64 lm, .slice A3 ts.length c3, .slice A4 th.length c4, .slice A5 el.length c5] 109)) := (by repeat (first | exact Below.refl _ _ | apply below_alloc | apply pw_below_drewN | apply below_drew1 | (refine Below.setCell ?_ (by first | (simp; done) | (simp; omega) | omega) _) ))
          have p0 := (hP).at 0 _ rfl
          have p1 := (hP).at 1 _ rfl
          have p2 := (hP).at 2 _ rfl
          have p3 := (hP).at 3 _ rfl
          have p4 := (hP).at 4 _ rfl
          have p5 := (hP).at 5 _ rfl
          have p6 := (hP).at 6 _ rfl
          have p7 := (hP).at 7 _ rfl
          have p8 := (hP).at 8 _ rfl
          have p9 := (hP).at 9 _ rfl
          have p10 := (hP).at 10 _ rfl
          have p11 := (hP).at 11 _ rfl
          go_enter Tryd.func115, Tryd.ntmps115
          go_wp2_with (go_at_call 52; (first | with_reducible refine (HI1.out _).mono ?_ | with_reducible refine (HI2.out _).mono ?_); rintro e w9 ⟨rfl, rfl⟩)
          refine (HB.out _).mono ?_
          rintro e w1 ⟨rfl, hb1⟩
          have hP1 := hP.below hb1 hP.lt
          have hB1 := hB.trans (hb1.mono hB.size)
          clear hP hB p0 p1 p2 p3 p4 p5 p6 p7 p8 p9 p10 p11 hb1
          have p0 := (hP1).at 0 _ rfl
          have p1 := (hP1).at 1 _ rfl
          have p2 := (hP1).at 2 _ rfl
          have p3 := (hP1).at 3 _ rfl
          have p4 := (hP1).at 4 _ rfl
          have p5 := (hP1).at 5 _ rfl
          have p6 := (hP1).at 6 _ rfl
          have p7 := (hP1).at 7 _ rfl
          have p8 := (hP1).at 8 _ rfl
          have p9 := (hP1).at 9 _ rfl
          have p10 := (hP1).at 10 _ rfl
          have p11 := (hP1).at 11 _ rfl
          go_wp2_with (go_at_call 52; (first | with_reducible refine (HI1.out _).mono ?_ | with_reducible refine (HI2.out _).mono ?_); rintro e w9 ⟨rfl, rfl⟩)
          go_ret
          exact ⟨rfl, hB1⟩
      · rw [if_neg (fun h => h4 h.2.2.1)]
        have r4 : ((th.length : Int) == 0) = false := by rw [beq_eq_false_iff_ne]; omega
        clear h0 hp h4
        skip
        skip
        have hP : Blk (w.alloc (.cells #[.int .i64 kd, .slice A0 tx.length c0, .int .i64 tk, .int .i64 mt, .int .i64 pt, .slice A1 nm.length c1, .slice A2 ks.length c2, .bool ov, .int .i64 lm, .slice A3 ts.length c3, .slice A4 th.length c4, .slice A5 el.length c5] 109)) w.heap.size [.int .i64 kd, .slice A0 tx.length c0, .int .i64 tk, .int .i64 mt, .int .i64 pt, .slice A1 nm.length c1, .slice A2 ks.length c2, .bool ov, .int .i64 lm, .slice A3 ts.length c3, .slice A4 th.length c4, .slice A5 el.length c5] := Blk.made w _ _
        have hB : Below w.heap.size w (w.alloc (.cells #[.int .i64 kd, .slice A0 tx.length c0, .int .i64 tk, .int .i64 mt, .int .i64 pt, .slice A1 nm.length c1, .slice A2 ks.length c2, .bool ov, .int .i64 lm, .slice A3 ts.length c3, .slice A4 th.length c4, .slice A5 el.length c5] 109)) := (by repeat (first | exact Below.refl _ _ | apply below_alloc | apply pw_below_drewN | apply below_drew1 | (refine Below.setCell ?_ (by first | (simp; done) | (simp; omega) | omega) _) ))
        have p0 := (hP).at 0 _ rfl
        have p1 := (hP).at 1 _ rfl
        have p2 := (hP).at 2 _ rfl
        have p3 := (hP).at 3 _ rfl
        have p4 := (hP).at 4 _ rfl
        have p5 := (hP).at 5 _ rfl
        have p6 := (hP).at 6 _ rfl
        have p7 := (hP).at 7 _ rfl
        have p8 := (hP).at 8 _ rfl
        have p9 := (hP).at 9 _ rfl
        have p10 := (hP).at 10 _ rfl
        have p11 := (hP).at 11 _ rfl
        go_enter Tryd.func115, Tryd.ntmps115
        go_wp2_with (go_at_call 52; (first | with_reducible refine (HI1.out _).mono ?_ | with_reducible refine (HI2.out _).mono ?_); rintro e w9 ⟨rfl, rfl⟩)
        refine (HB.out _).mono ?_
        rintro e w1 ⟨rfl, hb1⟩
        have hP1 := hP.below hb1 hP.lt
        have hB1 := hB.trans (hb1.mono hB.size)
        clear hP hB p0 p1 p2 p3 p4 p5 p6 p7 p8 p9 p10 p11 hb1
        have p0 := (hP1).at 0 _ rfl
        have p1 := (hP1).at 1 _ rfl
        have p2 := (hP1).at 2 _ rfl
        have p3 := (hP1).at 3 _ rfl
        have p4 := (hP1).at 4 _ rfl
        have p5 := (hP1).at 5 _ rfl
        have p6 := (hP1).at 6 _ rfl
        have p7 := (hP1).at 7 _ rfl
        have p8 := (hP1).at 8 _ rfl
        have p9 := (hP1).at 9 _ rfl
        have p10 := (hP1).at 10 _ rfl
        have p11 := (hP1).at 11 _ rfl
        go_wp2_with (go_at_call 52; (first | with_reducible refine (HI1.out _).mono ?_ | with_reducible refine (HI2.out _).mono ?_); rintro e w9 ⟨rfl, rfl⟩)
        go_ret
        exact ⟨rfl, hB1⟩
    · rw [decide_eq_false hp] at HB
      rw [if_neg (fun h => hp h.2.1)]
      clear h0 hp
      skip
      skip
      have hP : Blk (w.alloc (.cells #[.int .i64 kd, .slice A0 tx.length c0, .int .i64 tk, .int .i64 mt, .int .i64 pt, .slice A1 nm.length c1, .slice A2 ks.length c2, .bool ov, .int .i64 lm, .slice A3 ts.length c3, .slice A4 th.length c4, .slice A5 el.length c5] 109)) w.heap.size [.int .i64 kd, .slice A0 tx.length c0, .int .i64 tk, .int .i64 mt, .int .i64 pt, .slice A1 nm.length c1, .slice A2 ks.length c2, .bool ov, .int .i64 lm, .slice A3 ts.length c3, .slice A4 th.length c4, .slice A5 el.length c5] := Blk.made w _ _
      have hB : Below w.heap.size w (w.alloc (.cells #[.int .i64 kd, .slice A0 tx.length c0, .int .i64 tk, .int .i64 mt, .int .i64 pt, .slice A1 nm.length c1, .slice A2 ks.length c2, .bool ov, .int .i64 lm, .slice A3 ts.length c3, .slice A4 th.length c4, .slice A5 el.length c5] 109)) := (by repeat (first | exact Below.refl _ _ | apply below_alloc | apply pw_below_drewN | apply below_drew1 | (refine Below.setCell ?_ (by first | (simp; done) | (simp; omega) | omega) _) ))
      have p0 := (hP).at 0 _ rfl
      have p1 := (hP).at 1 _ rfl
      have p2 := (hP).at 2 _ rfl
      have p3 := (hP).at 3 _ rfl
      have p4 := (hP).at 4 _ rfl
      have p5 := (hP).at 5 _ rfl
      have p6 := (hP).at 6 _ rfl
      have p7 := (hP).at 7 _ rfl
      have p8 := (hP).at 8 _ rfl
      have p9 := (hP).at 9 _ rfl
      have p10 := (hP).at 10 _ rfl
      have p11 := (hP).at 11 _ rfl
      go_enter Tryd.func115, Tryd.ntmps115
      go_wp2_with (go_at_call 52; (first | with_reducible refine (HI1.out _).mono ?_ | with_reducible refine (HI2.out _).mono ?_); rintro e w9 ⟨rfl, rfl⟩)
      refine (HB.out _).mono ?_
      rintro e w1 ⟨rfl, hb1⟩
      have hP1 := hP.below hb1 hP.lt
      have hB1 := hB.trans (hb1.mono hB.size)
      clear hP hB p0 p1 p2 p3 p4 p5 p6 p7 p8 p9 p10 p11 hb1
      have p0 := (hP1).at 0 _ rfl
      have p1 := (hP1).at 1 _ rfl
      have p2 := (hP1).at 2 _ rfl
      have p3 := (hP1).at 3 _ rfl
      have p4 := (hP1).at 4 _ rfl
      have p5 := (hP1).at 5 _ rfl
      have p6 := (hP1).at 6 _ rfl
      have p7 := (hP1).at 7 _ rfl
      have p8 := (hP1).at 8 _ rfl
      have p9 := (hP1).at 9 _ rfl
      have p10 := (hP1).at 10 _ rfl
      have p11 := (hP1).at 11 _ rfl
      go_wp2_with (go_at_call 52; (first | with_reducible refine (HI1.out _).mono ?_ | with_reducible refine (HI2.out _).mono ?_); rintro e w9 ⟨rfl, rfl⟩)
      go_ret
      exact ⟨rfl, hB1⟩
  · rw [if_neg (fun h => h0 h.1)]
    have r0 : (tk == 0) = false := by rw [beq_eq_false_iff_ne]; exact h0
    clear h0
    skip
    skip
    have hP : Blk (w.alloc (.cells #[.int .i64 kd, .slice A0 tx.length c0, .int .i64 tk, .int .i64 mt, .int .i64 pt, .slice A1 nm.length c1, .slice A2 ks.length c2, .bool ov, .int .i64 lm, .slice A3 ts.length c3, .slice A4 th.length c4, .slice A5 el.length c5] 109)) w.heap.size [.int .i64 kd, .slice A0 tx.length c0, .int .i64 tk, .int .i64 mt, .int .i64 pt, .slice A1 nm.length c1, .slice A2 ks.length c2, .bool ov, .int .i64 lm, .slice A3 ts.length c3, .slice A4 th.length c4, .slice A5 el.length c5] := Blk.made w _ _
    have hB : Below w.heap.size w (w.alloc (.cells #[.int .i64 kd, .slice A0 tx.length c0, .int .i64 tk, .int .i64 mt, .int .i64 pt, .slice A1 nm.length c1, .slice A2 ks.length c2, .bool ov, .int .i64 lm, .slice A3 ts.length c3, .slice A4 th.length c4, .slice A5 el.length c5] 109)) := (by repeat (first | exact Below.refl _ _ | apply below_alloc | apply pw_below_drewN | apply below_drew1 | (refine Below.setCell ?_ (by first | (simp; done) | (simp; omega) | omega) _) ))
    have p0 := (hP).at 0 _ rfl
    have p1 := (hP).at 1 _ rfl
    have p2 := (hP).at 2 _ rfl
    have p3 := (hP).at 3 _ rfl
    have p4 := (hP).at 4 _ rfl
    have p5 := (hP).at 5 _ rfl
    have p6 := (hP).at 6 _ rfl
    have p7 := (hP).at 7 _ rfl
    have p8 := (hP).at 8 _ rfl
    have p9 := (hP).at 9 _ rfl
    have p10 := (hP).at 10 _ rfl
    have p11 := (hP).at 11 _ rfl
    go_enter Tryd.func115, Tryd.ntmps115
    go_wp2_with (go_at_call 52; (first | with_reducible refine (HI1.out _).mono ?_ | with_reducible refine (HI2.out _).mono ?_); rintro e w9 ⟨rfl, rfl⟩)
    go_ret
    exact ⟨rfl, hB⟩
set_option maxHeartbeats 1000000 in
set_option maxRecDepth 100000 in
theorem fn5_all (n : Nat) (kd : Int) (A0 : Option Addr) (c0 : Nat) (tx : List ByteArray) (tk mt pt : Int) (A1 : Option Addr) (c1 : Nat) (nm : List ByteArray) (A2 : Option Addr) (c2 : Nat) (ks : List ByteArray) (ov : Bool) (lm : Int) (A3 : Option Addr) (c3 : Nat) (ts : List (TestN n)) (A4 : Option Addr) (c4 : Nat) (th : List (CmdN n)) (A5 : Option Addr) (c5 : Nat) (el : List (CmdN n)) (dp : Int) (w : World) (h1 : ¬ kd < 1) (h10 : ¬ 10 < kd) (hn2 : ¬ kd = 2) (hd : ¬ 6 < dp) (hk : 5 ≤ kd ∧ kd ≤ 7) : Calls Tryd.prog 115 #[.agg #[.int .i64 kd, .slice A0 tx.length c0, .int .i64 tk, .int .i64 mt, .int .i64 pt, .slice A1 nm.length c1, .slice A2 ks.length c2, .bool ov, .int .i64 lm, .slice A3 ts.length c3, .slice A4 th.length c4, .slice A5 el.length c5], .int .i64 dp] w (fun e w' => e = .returned (.int .i64 (if tk = 0 ∧ (nm.length = 0 ∧ ks.length = 0 ∧ mt = 0 ∧ pt = 0 ∧ ov = false ∧ lm = 0 ∧ ts.length = 0) ∧ th.length = 0 ∧ el.length = 0 ∧ tx.length = 1 then 0 else 3)) ∧ Below w.heap.size w w') := by
  have HI1 := Lib.hid (fun w => in_yes kd 1 10 w (by omega) (by omega))
  have e2 : (kd != 2) = true := bne_iff_ne.mpr hn2
  have HB := Lib.hid (fun w => tb_A A1 c1 A2 c2 A3 c3 tk mt pt nm ks ov lm ts w)
  have b1 : (kd == 1) = false := by rw [beq_eq_false_iff_ne]; omega
  have b8 : (kd == 8) = false := by rw [beq_eq_false_iff_ne]; omega
  have b9 : (kd == 9) = false := by rw [beq_eq_false_iff_ne]; omega
  have HI2 := Lib.hid (fun w => in_yes kd 5 7 w (by omega) (by omega))
  clear hk hn2 h1 h10
  by_cases h0 : tk = 0
  · have r0 : (tk == 0) = true := by rw [beq_iff_eq]; exact h0
    by_cases hp : nm.length = 0 ∧ ks.length = 0 ∧ mt = 0 ∧ pt = 0 ∧ ov = false ∧ lm = 0 ∧ ts.length = 0
    · rw [decide_eq_true hp] at HB
      by_cases h4 : th.length = 0
      · have r4 : ((th.length : Int) == 0) = true := by rw [beq_iff_eq]; omega
        by_cases h5 : el.length = 0
        · have r5 : ((el.length : Int) == 0) = true := by rw [beq_iff_eq]; omega
          by_cases ht : tx.length = 1
          · rw [if_pos ⟨h0, hp, h4, h5, ht⟩]
            have t0 : ((tx.length : Int) == 1) = true := by rw [beq_iff_eq]; omega
            clear h0 hp h4 h5 ht
            skip
            skip
            have hP : Blk (w.alloc (.cells #[.int .i64 kd, .slice A0 tx.length c0, .int .i64 tk, .int .i64 mt, .int .i64 pt, .slice A1 nm.length c1, .slice A2 ks.length c2, .bool ov, .int .i64 lm, .slice A3 ts.length c3, .slice A4 th.length c4, .slice A5 el.length c5] 109)) w.heap.size [.int .i64 kd, .slice A0 tx.length c0, .int .i64 tk, .int .i64 mt, .int .i64 pt, .slice A1 nm.length c1, .slice A2 ks.length c2, .bool ov, .int .i64 lm, .slice A3 ts.length c3, .slice A4 th.length c4, .slice A5 el.length c5] := Blk.made w _ _
            have hB : Below w.heap.size w (w.alloc (.cells #[.int .i64 kd, .slice A0 tx.length c0, .int .i64 tk, .int .i64 mt, .int .i64 pt, .slice A1 nm.length c1, .slice A2 ks.length c2, .bool ov, .int .i64 lm, .slice A3 ts.length c3, .slice A4 th.length c4, .slice A5 el.length c5] 109)) := (by repeat (first | exact Below.refl _ _ | apply below_alloc | apply pw_below_drewN | apply below_drew1 | (refine Below.setCell ?_ (by first | (simp; done) | (simp; omega) | omega) _) ))
            have p0 := (hP).at 0 _ rfl
            have p1 := (hP).at 1 _ rfl
            have p2 := (hP).at 2 _ rfl
            have p3 := (hP).at 3 _ rfl
            have p4 := (hP).at 4 _ rfl
            have p5 := (hP).at 5 _ rfl
            have p6 := (hP).at 6 _ rfl
            have p7 := (hP).at 7 _ rfl
            have p8 := (hP).at 8 _ rfl
            have p9 := (hP).at 9 _ rfl
            have p10 := (hP).at 10 _ rfl
            have p11 := (hP).at 11 _ rfl
            go_enter Tryd.func115, Tryd.ntmps115
            go_wp2_with (go_at_call 52; (first | with_reducible refine (HI1.out _).mono ?_ | with_reducible refine (HI2.out _).mono ?_); rintro e w9 ⟨rfl, rfl⟩)
            refine (HB.out _).mono ?_
            rintro e w1 ⟨rfl, hb1⟩
            have hP1 := hP.below hb1 hP.lt
            have hB1 := hB.trans (hb1.mono hB.size)
            clear hP hB p0 p1 p2 p3 p4 p5 p6 p7 p8 p9 p10 p11 hb1
            have p0 := (hP1).at 0 _ rfl
            have p1 := (hP1).at 1 _ rfl
            have p2 := (hP1).at 2 _ rfl
            have p3 := (hP1).at 3 _ rfl
            have p4 := (hP1).at 4 _ rfl
            have p5 := (hP1).at 5 _ rfl
            have p6 := (hP1).at 6 _ rfl
            have p7 := (hP1).at 7 _ rfl
            have p8 := (hP1).at 8 _ rfl
            have p9 := (hP1).at 9 _ rfl
            have p10 := (hP1).at 10 _ rfl
            have p11 := (hP1).at 11 _ rfl
            go_wp2_with (go_at_call 52; (first | with_reducible refine (HI1.out _).mono ?_ | with_reducible refine (HI2.out _).mono ?_); rintro e w9 ⟨rfl, rfl⟩)
            go_ret
            exact ⟨rfl, hB1⟩
          · rw [if_neg (fun h => ht h.2.2.2.2)]
            have t0 : ((tx.length : Int) == 1) = false := by rw [beq_eq_false_iff_ne]; omega
            clear h0 hp h4 h5 ht
            skip
            skip
            have hP : Blk (w.alloc (.cells #[.int .i64 kd, .slice A0 tx.length c0, .int .i64 tk, .int .i64 mt, .int .i64 pt, .slice A1 nm.length c1, .slice A2 ks.length c2, .bool ov, .int .i64 lm, .slice A3 ts.length c3, .slice A4 th.length c4, .slice A5 el.length c5] 109)) w.heap.size [.int .i64 kd, .slice A0 tx.length c0, .int .i64 tk, .int .i64 mt, .int .i64 pt, .slice A1 nm.length c1, .slice A2 ks.length c2, .bool ov, .int .i64 lm, .slice A3 ts.length c3, .slice A4 th.length c4, .slice A5 el.length c5] := Blk.made w _ _
            have hB : Below w.heap.size w (w.alloc (.cells #[.int .i64 kd, .slice A0 tx.length c0, .int .i64 tk, .int .i64 mt, .int .i64 pt, .slice A1 nm.length c1, .slice A2 ks.length c2, .bool ov, .int .i64 lm, .slice A3 ts.length c3, .slice A4 th.length c4, .slice A5 el.length c5] 109)) := (by repeat (first | exact Below.refl _ _ | apply below_alloc | apply pw_below_drewN | apply below_drew1 | (refine Below.setCell ?_ (by first | (simp; done) | (simp; omega) | omega) _) ))
            have p0 := (hP).at 0 _ rfl
            have p1 := (hP).at 1 _ rfl
            have p2 := (hP).at 2 _ rfl
            have p3 := (hP).at 3 _ rfl
            have p4 := (hP).at 4 _ rfl
            have p5 := (hP).at 5 _ rfl
            have p6 := (hP).at 6 _ rfl
            have p7 := (hP).at 7 _ rfl
            have p8 := (hP).at 8 _ rfl
            have p9 := (hP).at 9 _ rfl
            have p10 := (hP).at 10 _ rfl
            have p11 := (hP).at 11 _ rfl
            go_enter Tryd.func115, Tryd.ntmps115
            go_wp2_with (go_at_call 52; (first | with_reducible refine (HI1.out _).mono ?_ | with_reducible refine (HI2.out _).mono ?_); rintro e w9 ⟨rfl, rfl⟩)
            refine (HB.out _).mono ?_
            rintro e w1 ⟨rfl, hb1⟩
            have hP1 := hP.below hb1 hP.lt
            have hB1 := hB.trans (hb1.mono hB.size)
            clear hP hB p0 p1 p2 p3 p4 p5 p6 p7 p8 p9 p10 p11 hb1
            have p0 := (hP1).at 0 _ rfl
            have p1 := (hP1).at 1 _ rfl
            have p2 := (hP1).at 2 _ rfl
            have p3 := (hP1).at 3 _ rfl
            have p4 := (hP1).at 4 _ rfl
            have p5 := (hP1).at 5 _ rfl
            have p6 := (hP1).at 6 _ rfl
            have p7 := (hP1).at 7 _ rfl
            have p8 := (hP1).at 8 _ rfl
            have p9 := (hP1).at 9 _ rfl
            have p10 := (hP1).at 10 _ rfl
            have p11 := (hP1).at 11 _ rfl
            go_wp2_with (go_at_call 52; (first | with_reducible refine (HI1.out _).mono ?_ | with_reducible refine (HI2.out _).mono ?_); rintro e w9 ⟨rfl, rfl⟩)
            go_ret
            exact ⟨rfl, hB1⟩
        · rw [if_neg (fun h => h5 h.2.2.2.1)]
          have r5 : ((el.length : Int) == 0) = false := by rw [beq_eq_false_iff_ne]; omega
          clear h0 hp h4 h5
          skip
          skip
          have hP : Blk (w.alloc (.cells #[.int .i64 kd, .slice A0 tx.length c0, .int .i64 tk, .int .i64 mt, .int .i64 pt, .slice A1 nm.length c1, .slice A2 ks.length c2, .bool ov, .int .i64 lm, .slice A3 ts.length c3, .slice A4 th.length c4, .slice A5 el.length c5] 109)) w.heap.size [.int .i64 kd, .slice A0 tx.length c0, .int .i64 tk, .int .i64 mt, .int .i64 pt, .slice A1 nm.length c1, .slice A2 ks.length c2, .bool ov, .int .i64 lm, .slice A3 ts.length c3, .slice A4 th.length c4, .slice A5 el.length c5] := Blk.made w _ _
          have hB : Below w.heap.size w (w.alloc (.cells #[.int .i64 kd, .slice A0 tx.length c0, .int .i64 tk, .int .i64 mt, .int .i64 pt, .slice A1 nm.length c1, .slice A2 ks.length c2, .bool ov, .int .i64 lm, .slice A3 ts.length c3, .slice A4 th.length c4, .slice A5 el.length c5] 109)) := (by repeat (first | exact Below.refl _ _ | apply below_alloc | apply pw_below_drewN | apply below_drew1 | (refine Below.setCell ?_ (by first | (simp; done) | (simp; omega) | omega) _) ))
          have p0 := (hP).at 0 _ rfl
          have p1 := (hP).at 1 _ rfl
          have p2 := (hP).at 2 _ rfl
          have p3 := (hP).at 3 _ rfl
          have p4 := (hP).at 4 _ rfl
          have p5 := (hP).at 5 _ rfl
          have p6 := (hP).at 6 _ rfl
          have p7 := (hP).at 7 _ rfl
          have p8 := (hP).at 8 _ rfl
          have p9 := (hP).at 9 _ rfl
          have p10 := (hP).at 10 _ rfl
          have p11 := (hP).at 11 _ rfl
          go_enter Tryd.func115, Tryd.ntmps115
          go_wp2_with (go_at_call 52; (first | with_reducible refine (HI1.out _).mono ?_ | with_reducible refine (HI2.out _).mono ?_); rintro e w9 ⟨rfl, rfl⟩)
          refine (HB.out _).mono ?_
          rintro e w1 ⟨rfl, hb1⟩
          have hP1 := hP.below hb1 hP.lt
          have hB1 := hB.trans (hb1.mono hB.size)
          clear hP hB p0 p1 p2 p3 p4 p5 p6 p7 p8 p9 p10 p11 hb1
          have p0 := (hP1).at 0 _ rfl
          have p1 := (hP1).at 1 _ rfl
          have p2 := (hP1).at 2 _ rfl
          have p3 := (hP1).at 3 _ rfl
          have p4 := (hP1).at 4 _ rfl
          have p5 := (hP1).at 5 _ rfl
          have p6 := (hP1).at 6 _ rfl
          have p7 := (hP1).at 7 _ rfl
          have p8 := (hP1).at 8 _ rfl
          have p9 := (hP1).at 9 _ rfl
          have p10 := (hP1).at 10 _ rfl
          have p11 := (hP1).at 11 _ rfl
          go_wp2_with (go_at_call 52; (first | with_reducible refine (HI1.out _).mono ?_ | with_reducible refine (HI2.out _).mono ?_); rintro e w9 ⟨rfl, rfl⟩)
          go_ret
          exact ⟨rfl, hB1⟩
      · rw [if_neg (fun h => h4 h.2.2.1)]
        have r4 : ((th.length : Int) == 0) = false := by rw [beq_eq_false_iff_ne]; omega
        clear h0 hp h4
        skip
        skip
        have hP : Blk (w.alloc (.cells #[.int .i64 kd, .slice A0 tx.length c0, .int .i64 tk, .int .i64 mt, .int .i64 pt, .slice A1 nm.length c1, .slice A2 ks.length c2, .bool ov, .int .i64 lm, .slice A3 ts.length c3, .slice A4 th.length c4, .slice A5 el.length c5] 109)) w.heap.size [.int .i64 kd, .slice A0 tx.length c0, .int .i64 tk, .int .i64 mt, .int .i64 pt, .slice A1 nm.length c1, .slice A2 ks.length c2, .bool ov, .int .i64 lm, .slice A3 ts.length c3, .slice A4 th.length c4, .slice A5 el.length c5] := Blk.made w _ _
        have hB : Below w.heap.size w (w.alloc (.cells #[.int .i64 kd, .slice A0 tx.length c0, .int .i64 tk, .int .i64 mt, .int .i64 pt, .slice A1 nm.length c1, .slice A2 ks.length c2, .bool ov, .int .i64 lm, .slice A3 ts.length c3, .slice A4 th.length c4, .slice A5 el.length c5] 109)) := (by repeat (first | exact Below.refl _ _ | apply below_alloc | apply pw_below_drewN | apply below_drew1 | (refine Below.setCell ?_ (by first | (simp; done) | (simp; omega) | omega) _) ))
        have p0 := (hP).at 0 _ rfl
        have p1 := (hP).at 1 _ rfl
        have p2 := (hP).at 2 _ rfl
        have p3 := (hP).at 3 _ rfl
        have p4 := (hP).at 4 _ rfl
        have p5 := (hP).at 5 _ rfl
        have p6 := (hP).at 6 _ rfl
        have p7 := (hP).at 7 _ rfl
        have p8 := (hP).at 8 _ rfl
        have p9 := (hP).at 9 _ rfl
        have p10 := (hP).at 10 _ rfl
        have p11 := (hP).at 11 _ rfl
        go_enter Tryd.func115, Tryd.ntmps115
        go_wp2_with (go_at_call 52; (first | with_reducible refine (HI1.out _).mono ?_ | with_reducible refine (HI2.out _).mono ?_); rintro e w9 ⟨rfl, rfl⟩)
        refine (HB.out _).mono ?_
        rintro e w1 ⟨rfl, hb1⟩
        have hP1 := hP.below hb1 hP.lt
        have hB1 := hB.trans (hb1.mono hB.size)
        clear hP hB p0 p1 p2 p3 p4 p5 p6 p7 p8 p9 p10 p11 hb1
        have p0 := (hP1).at 0 _ rfl
        have p1 := (hP1).at 1 _ rfl
        have p2 := (hP1).at 2 _ rfl
        have p3 := (hP1).at 3 _ rfl
        have p4 := (hP1).at 4 _ rfl
        have p5 := (hP1).at 5 _ rfl
        have p6 := (hP1).at 6 _ rfl
        have p7 := (hP1).at 7 _ rfl
        have p8 := (hP1).at 8 _ rfl
        have p9 := (hP1).at 9 _ rfl
        have p10 := (hP1).at 10 _ rfl
        have p11 := (hP1).at 11 _ rfl
        go_wp2_with (go_at_call 52; (first | with_reducible refine (HI1.out _).mono ?_ | with_reducible refine (HI2.out _).mono ?_); rintro e w9 ⟨rfl, rfl⟩)
        go_ret
        exact ⟨rfl, hB1⟩
    · rw [decide_eq_false hp] at HB
      rw [if_neg (fun h => hp h.2.1)]
      clear h0 hp
      skip
      skip
      have hP : Blk (w.alloc (.cells #[.int .i64 kd, .slice A0 tx.length c0, .int .i64 tk, .int .i64 mt, .int .i64 pt, .slice A1 nm.length c1, .slice A2 ks.length c2, .bool ov, .int .i64 lm, .slice A3 ts.length c3, .slice A4 th.length c4, .slice A5 el.length c5] 109)) w.heap.size [.int .i64 kd, .slice A0 tx.length c0, .int .i64 tk, .int .i64 mt, .int .i64 pt, .slice A1 nm.length c1, .slice A2 ks.length c2, .bool ov, .int .i64 lm, .slice A3 ts.length c3, .slice A4 th.length c4, .slice A5 el.length c5] := Blk.made w _ _
      have hB : Below w.heap.size w (w.alloc (.cells #[.int .i64 kd, .slice A0 tx.length c0, .int .i64 tk, .int .i64 mt, .int .i64 pt, .slice A1 nm.length c1, .slice A2 ks.length c2, .bool ov, .int .i64 lm, .slice A3 ts.length c3, .slice A4 th.length c4, .slice A5 el.length c5] 109)) := (by repeat (first | exact Below.refl _ _ | apply below_alloc | apply pw_below_drewN | apply below_drew1 | (refine Below.setCell ?_ (by first | (simp; done) | (simp; omega) | omega) _) ))
      have p0 := (hP).at 0 _ rfl
      have p1 := (hP).at 1 _ rfl
      have p2 := (hP).at 2 _ rfl
      have p3 := (hP).at 3 _ rfl
      have p4 := (hP).at 4 _ rfl
      have p5 := (hP).at 5 _ rfl
      have p6 := (hP).at 6 _ rfl
      have p7 := (hP).at 7 _ rfl
      have p8 := (hP).at 8 _ rfl
      have p9 := (hP).at 9 _ rfl
      have p10 := (hP).at 10 _ rfl
      have p11 := (hP).at 11 _ rfl
      go_enter Tryd.func115, Tryd.ntmps115
      go_wp2_with (go_at_call 52; (first | with_reducible refine (HI1.out _).mono ?_ | with_reducible refine (HI2.out _).mono ?_); rintro e w9 ⟨rfl, rfl⟩)
      refine (HB.out _).mono ?_
      rintro e w1 ⟨rfl, hb1⟩
      have hP1 := hP.below hb1 hP.lt
      have hB1 := hB.trans (hb1.mono hB.size)
      clear hP hB p0 p1 p2 p3 p4 p5 p6 p7 p8 p9 p10 p11 hb1
      have p0 := (hP1).at 0 _ rfl
      have p1 := (hP1).at 1 _ rfl
      have p2 := (hP1).at 2 _ rfl
      have p3 := (hP1).at 3 _ rfl
      have p4 := (hP1).at 4 _ rfl
      have p5 := (hP1).at 5 _ rfl
      have p6 := (hP1).at 6 _ rfl
      have p7 := (hP1).at 7 _ rfl
      have p8 := (hP1).at 8 _ rfl
      have p9 := (hP1).at 9 _ rfl
      have p10 := (hP1).at 10 _ rfl
      have p11 := (hP1).at 11 _ rfl
      go_wp2_with (go_at_call 52; (first | with_reducible refine (HI1.out _).mono ?_ | with_reducible refine (HI2.out _).mono ?_); rintro e w9 ⟨rfl, rfl⟩)
      go_ret
      exact ⟨rfl, hB1⟩
  · rw [if_neg (fun h => h0 h.1)]
    have r0 : (tk == 0) = false := by rw [beq_eq_false_iff_ne]; exact h0
    clear h0
    skip
    skip
    have hP : Blk (w.alloc (.cells #[.int .i64 kd, .slice A0 tx.length c0, .int .i64 tk, .int .i64 mt, .int .i64 pt, .slice A1 nm.length c1, .slice A2 ks.length c2, .bool ov, .int .i64 lm, .slice A3 ts.length c3, .slice A4 th.length c4, .slice A5 el.length c5] 109)) w.heap.size [.int .i64 kd, .slice A0 tx.length c0, .int .i64 tk, .int .i64 mt, .int .i64 pt, .slice A1 nm.length c1, .slice A2 ks.length c2, .bool ov, .int .i64 lm, .slice A3 ts.length c3, .slice A4 th.length c4, .slice A5 el.length c5] := Blk.made w _ _
    have hB : Below w.heap.size w (w.alloc (.cells #[.int .i64 kd, .slice A0 tx.length c0, .int .i64 tk, .int .i64 mt, .int .i64 pt, .slice A1 nm.length c1, .slice A2 ks.length c2, .bool ov, .int .i64 lm, .slice A3 ts.length c3, .slice A4 th.length c4, .slice A5 el.length c5] 109)) := (by repeat (first | exact Below.refl _ _ | apply below_alloc | apply pw_below_drewN | apply below_drew1 | (refine Below.setCell ?_ (by first | (simp; done) | (simp; omega) | omega) _) ))
    have p0 := (hP).at 0 _ rfl
    have p1 := (hP).at 1 _ rfl
    have p2 := (hP).at 2 _ rfl
    have p3 := (hP).at 3 _ rfl
    have p4 := (hP).at 4 _ rfl
    have p5 := (hP).at 5 _ rfl
    have p6 := (hP).at 6 _ rfl
    have p7 := (hP).at 7 _ rfl
    have p8 := (hP).at 8 _ rfl
    have p9 := (hP).at 9 _ rfl
    have p10 := (hP).at 10 _ rfl
    have p11 := (hP).at 11 _ rfl
    go_enter Tryd.func115, Tryd.ntmps115
    go_wp2_with (go_at_call 52; (first | with_reducible refine (HI1.out _).mono ?_ | with_reducible refine (HI2.out _).mono ?_); rintro e w9 ⟨rfl, rfl⟩)
    go_ret
    exact ⟨rfl, hB⟩
set_option maxHeartbeats 1000000 in
set_option maxRecDepth 100000 in
theorem fn3_all (n : Nat) (kd : Int) (A0 : Option Addr) (c0 : Nat) (tx : List ByteArray) (tk mt pt : Int) (A1 : Option Addr) (c1 : Nat) (nm : List ByteArray) (A2 : Option Addr) (c2 : Nat) (ks : List ByteArray) (ov : Bool) (lm : Int) (A3 : Option Addr) (c3 : Nat) (ts : List (TestN n)) (A4 : Option Addr) (c4 : Nat) (th : List (CmdN n)) (A5 : Option Addr) (c5 : Nat) (el : List (CmdN n)) (dp : Int) (w : World) (h1 : ¬ kd < 1) (h10 : ¬ 10 < kd) (hn2 : ¬ kd = 2) (hd : ¬ 6 < dp) (hk : kd = 3 ∨ kd = 4 ∨ kd = 10) : Calls Tryd.prog 115 #[.agg #[.int .i64 kd, .slice A0 tx.length c0, .int .i64 tk, .int .i64 mt, .int .i64 pt, .slice A1 nm.length c1, .slice A2 ks.length c2, .bool ov, .int .i64 lm, .slice A3 ts.length c3, .slice A4 th.length c4, .slice A5 el.length c5], .int .i64 dp] w (fun e w' => e = .returned (.int .i64 (if tk = 0 ∧ (nm.length = 0 ∧ ks.length = 0 ∧ mt = 0 ∧ pt = 0 ∧ ov = false ∧ lm = 0 ∧ ts.length = 0) ∧ th.length = 0 ∧ el.length = 0 ∧ tx.length = 0 then 0 else 3)) ∧ Below w.heap.size w w') := by
  have HI1 := Lib.hid (fun w => in_yes kd 1 10 w (by omega) (by omega))
  have e2 : (kd != 2) = true := bne_iff_ne.mpr hn2
  have HB := Lib.hid (fun w => tb_A A1 c1 A2 c2 A3 c3 tk mt pt nm ks ov lm ts w)
  have b1 : (kd == 1) = false := by rw [beq_eq_false_iff_ne]; omega
  have b8 : (kd == 8) = false := by rw [beq_eq_false_iff_ne]; omega
  have b9 : (kd == 9) = false := by rw [beq_eq_false_iff_ne]; omega
  have HI2 := Lib.hid (fun w => in_no kd 5 7 w (by omega))
  clear hk hn2 h1 h10
  by_cases h0 : tk = 0
  · have r0 : (tk == 0) = true := by rw [beq_iff_eq]; exact h0
    by_cases hp : nm.length = 0 ∧ ks.length = 0 ∧ mt = 0 ∧ pt = 0 ∧ ov = false ∧ lm = 0 ∧ ts.length = 0
    · rw [decide_eq_true hp] at HB
      by_cases h4 : th.length = 0
      · have r4 : ((th.length : Int) == 0) = true := by rw [beq_iff_eq]; omega
        by_cases h5 : el.length = 0
        · have r5 : ((el.length : Int) == 0) = true := by rw [beq_iff_eq]; omega
          by_cases ht : tx.length = 0
          · rw [if_pos ⟨h0, hp, h4, h5, ht⟩]
            have t0 : ((tx.length : Int) == 0) = true := by rw [beq_iff_eq]; omega
            clear h0 hp h4 h5 ht
            skip
            skip
            have hP : Blk (w.alloc (.cells #[.int .i64 kd, .slice A0 tx.length c0, .int .i64 tk, .int .i64 mt, .int .i64 pt, .slice A1 nm.length c1, .slice A2 ks.length c2, .bool ov, .int .i64 lm, .slice A3 ts.length c3, .slice A4 th.length c4, .slice A5 el.length c5] 109)) w.heap.size [.int .i64 kd, .slice A0 tx.length c0, .int .i64 tk, .int .i64 mt, .int .i64 pt, .slice A1 nm.length c1, .slice A2 ks.length c2, .bool ov, .int .i64 lm, .slice A3 ts.length c3, .slice A4 th.length c4, .slice A5 el.length c5] := Blk.made w _ _
            have hB : Below w.heap.size w (w.alloc (.cells #[.int .i64 kd, .slice A0 tx.length c0, .int .i64 tk, .int .i64 mt, .int .i64 pt, .slice A1 nm.length c1, .slice A2 ks.length c2, .bool ov, .int .i64 lm, .slice A3 ts.length c3, .slice A4 th.length c4, .slice A5 el.length c5] 109)) := (by repeat (first | exact Below.refl _ _ | apply below_alloc | apply pw_below_drewN | apply below_drew1 | (refine Below.setCell ?_ (by first | (simp; done) | (simp; omega) | omega) _) ))
            have p0 := (hP).at 0 _ rfl
            have p1 := (hP).at 1 _ rfl
            have p2 := (hP).at 2 _ rfl
            have p3 := (hP).at 3 _ rfl
            have p4 := (hP).at 4 _ rfl
            have p5 := (hP).at 5 _ rfl
            have p6 := (hP).at 6 _ rfl
            have p7 := (hP).at 7 _ rfl
            have p8 := (hP).at 8 _ rfl
            have p9 := (hP).at 9 _ rfl
            have p10 := (hP).at 10 _ rfl
            have p11 := (hP).at 11 _ rfl
            go_enter Tryd.func115, Tryd.ntmps115
            go_wp2_with (go_at_call 52; (first | with_reducible refine (HI1.out _).mono ?_ | with_reducible refine (HI2.out _).mono ?_); rintro e w9 ⟨rfl, rfl⟩)
            refine (HB.out _).mono ?_
            rintro e w1 ⟨rfl, hb1⟩
            have hP1 := hP.below hb1 hP.lt
            have hB1 := hB.trans (hb1.mono hB.size)
            clear hP hB p0 p1 p2 p3 p4 p5 p6 p7 p8 p9 p10 p11 hb1
            have p0 := (hP1).at 0 _ rfl
            have p1 := (hP1).at 1 _ rfl
            have p2 := (hP1).at 2 _ rfl
            have p3 := (hP1).at 3 _ rfl
            have p4 := (hP1).at 4 _ rfl
            have p5 := (hP1).at 5 _ rfl
            have p6 := (hP1).at 6 _ rfl
            have p7 := (hP1).at 7 _ rfl
            have p8 := (hP1).at 8 _ rfl
            have p9 := (hP1).at 9 _ rfl
            have p10 := (hP1).at 10 _ rfl
            have p11 := (hP1).at 11 _ rfl
            go_wp2_with (go_at_call 52; (first | with_reducible refine (HI1.out _).mono ?_ | with_reducible refine (HI2.out _).mono ?_); rintro e w9 ⟨rfl, rfl⟩)
            go_ret
            exact ⟨rfl, hB1⟩
          · rw [if_neg (fun h => ht h.2.2.2.2)]
            have t0 : ((tx.length : Int) == 0) = false := by rw [beq_eq_false_iff_ne]; omega
            clear h0 hp h4 h5 ht
            skip
            skip
            have hP : Blk (w.alloc (.cells #[.int .i64 kd, .slice A0 tx.length c0, .int .i64 tk, .int .i64 mt, .int .i64 pt, .slice A1 nm.length c1, .slice A2 ks.length c2, .bool ov, .int .i64 lm, .slice A3 ts.length c3, .slice A4 th.length c4, .slice A5 el.length c5] 109)) w.heap.size [.int .i64 kd, .slice A0 tx.length c0, .int .i64 tk, .int .i64 mt, .int .i64 pt, .slice A1 nm.length c1, .slice A2 ks.length c2, .bool ov, .int .i64 lm, .slice A3 ts.length c3, .slice A4 th.length c4, .slice A5 el.length c5] := Blk.made w _ _
            have hB : Below w.heap.size w (w.alloc (.cells #[.int .i64 kd, .slice A0 tx.length c0, .int .i64 tk, .int .i64 mt, .int .i64 pt, .slice A1 nm.length c1, .slice A2 ks.length c2, .bool ov, .int .i64 lm, .slice A3 ts.length c3, .slice A4 th.length c4, .slice A5 el.length c5] 109)) := (by repeat (first | exact Below.refl _ _ | apply below_alloc | apply pw_below_drewN | apply below_drew1 | (refine Below.setCell ?_ (by first | (simp; done) | (simp; omega) | omega) _) ))
            have p0 := (hP).at 0 _ rfl
            have p1 := (hP).at 1 _ rfl
            have p2 := (hP).at 2 _ rfl
            have p3 := (hP).at 3 _ rfl
            have p4 := (hP).at 4 _ rfl
            have p5 := (hP).at 5 _ rfl
            have p6 := (hP).at 6 _ rfl
            have p7 := (hP).at 7 _ rfl
            have p8 := (hP).at 8 _ rfl
            have p9 := (hP).at 9 _ rfl
            have p10 := (hP).at 10 _ rfl
            have p11 := (hP).at 11 _ rfl
            go_enter Tryd.func115, Tryd.ntmps115
            go_wp2_with (go_at_call 52; (first | with_reducible refine (HI1.out _).mono ?_ | with_reducible refine (HI2.out _).mono ?_); rintro e w9 ⟨rfl, rfl⟩)
            refine (HB.out _).mono ?_
            rintro e w1 ⟨rfl, hb1⟩
            have hP1 := hP.below hb1 hP.lt
            have hB1 := hB.trans (hb1.mono hB.size)
            clear hP hB p0 p1 p2 p3 p4 p5 p6 p7 p8 p9 p10 p11 hb1
            have p0 := (hP1).at 0 _ rfl
            have p1 := (hP1).at 1 _ rfl
            have p2 := (hP1).at 2 _ rfl
            have p3 := (hP1).at 3 _ rfl
            have p4 := (hP1).at 4 _ rfl
            have p5 := (hP1).at 5 _ rfl
            have p6 := (hP1).at 6 _ rfl
            have p7 := (hP1).at 7 _ rfl
            have p8 := (hP1).at 8 _ rfl
            have p9 := (hP1).at 9 _ rfl
            have p10 := (hP1).at 10 _ rfl
            have p11 := (hP1).at 11 _ rfl
            go_wp2_with (go_at_call 52; (first | with_reducible refine (HI1.out _).mono ?_ | with_reducible refine (HI2.out _).mono ?_); rintro e w9 ⟨rfl, rfl⟩)
            go_ret
            exact ⟨rfl, hB1⟩
        · rw [if_neg (fun h => h5 h.2.2.2.1)]
          have r5 : ((el.length : Int) == 0) = false := by rw [beq_eq_false_iff_ne]; omega
          clear h0 hp h4 h5
          skip
          skip
          have hP : Blk (w.alloc (.cells #[.int .i64 kd, .slice A0 tx.length c0, .int .i64 tk, .int .i64 mt, .int .i64 pt, .slice A1 nm.length c1, .slice A2 ks.length c2, .bool ov, .int .i64 lm, .slice A3 ts.length c3, .slice A4 th.length c4, .slice A5 el.length c5] 109)) w.heap.size [.int .i64 kd, .slice A0 tx.length c0, .int .i64 tk, .int .i64 mt, .int .i64 pt, .slice A1 nm.length c1, .slice A2 ks.length c2, .bool ov, .int .i64 lm, .slice A3 ts.length c3, .slice A4 th.length c4, .slice A5 el.length c5] := Blk.made w _ _
          have hB : Below w.heap.size w (w.alloc (.cells #[.int .i64 kd, .slice A0 tx.length c0, .int .i64 tk, .int .i64 mt, .int .i64 pt, .slice A1 nm.length c1, .slice A2 ks.length c2, .bool ov, .int .i64 lm, .slice A3 ts.length c3, .slice A4 th.length c4, .slice A5 el.length c5] 109)) := (by repeat (first | exact Below.refl _ _ | apply below_alloc | apply pw_below_drewN | apply below_drew1 | (refine Below.setCell ?_ (by first | (simp; done) | (simp; omega) | omega) _) ))
          have p0 := (hP).at 0 _ rfl
          have p1 := (hP).at 1 _ rfl
          have p2 := (hP).at 2 _ rfl
          have p3 := (hP).at 3 _ rfl
          have p4 := (hP).at 4 _ rfl
          have p5 := (hP).at 5 _ rfl
          have p6 := (hP).at 6 _ rfl
          have p7 := (hP).at 7 _ rfl
          have p8 := (hP).at 8 _ rfl
          have p9 := (hP).at 9 _ rfl
          have p10 := (hP).at 10 _ rfl
          have p11 := (hP).at 11 _ rfl
          go_enter Tryd.func115, Tryd.ntmps115
          go_wp2_with (go_at_call 52; (first | with_reducible refine (HI1.out _).mono ?_ | with_reducible refine (HI2.out _).mono ?_); rintro e w9 ⟨rfl, rfl⟩)
          refine (HB.out _).mono ?_
          rintro e w1 ⟨rfl, hb1⟩
          have hP1 := hP.below hb1 hP.lt
          have hB1 := hB.trans (hb1.mono hB.size)
          clear hP hB p0 p1 p2 p3 p4 p5 p6 p7 p8 p9 p10 p11 hb1
          have p0 := (hP1).at 0 _ rfl
          have p1 := (hP1).at 1 _ rfl
          have p2 := (hP1).at 2 _ rfl
          have p3 := (hP1).at 3 _ rfl
          have p4 := (hP1).at 4 _ rfl
          have p5 := (hP1).at 5 _ rfl
          have p6 := (hP1).at 6 _ rfl
          have p7 := (hP1).at 7 _ rfl
          have p8 := (hP1).at 8 _ rfl
          have p9 := (hP1).at 9 _ rfl
          have p10 := (hP1).at 10 _ rfl
          have p11 := (hP1).at 11 _ rfl
          go_wp2_with (go_at_call 52; (first | with_reducible refine (HI1.out _).mono ?_ | with_reducible refine (HI2.out _).mono ?_); rintro e w9 ⟨rfl, rfl⟩)
          go_ret
          exact ⟨rfl, hB1⟩
      · rw [if_neg (fun h => h4 h.2.2.1)]
        have r4 : ((th.length : Int) == 0) = false := by rw [beq_eq_false_iff_ne]; omega
        clear h0 hp h4
        skip
        skip
        have hP : Blk (w.alloc (.cells #[.int .i64 kd, .slice A0 tx.length c0, .int .i64 tk, .int .i64 mt, .int .i64 pt, .slice A1 nm.length c1, .slice A2 ks.length c2, .bool ov, .int .i64 lm, .slice A3 ts.length c3, .slice A4 th.length c4, .slice A5 el.length c5] 109)) w.heap.size [.int .i64 kd, .slice A0 tx.length c0, .int .i64 tk, .int .i64 mt, .int .i64 pt, .slice A1 nm.length c1, .slice A2 ks.length c2, .bool ov, .int .i64 lm, .slice A3 ts.length c3, .slice A4 th.length c4, .slice A5 el.length c5] := Blk.made w _ _
        have hB : Below w.heap.size w (w.alloc (.cells #[.int .i64 kd, .slice A0 tx.length c0, .int .i64 tk, .int .i64 mt, .int .i64 pt, .slice A1 nm.length c1, .slice A2 ks.length c2, .bool ov, .int .i64 lm, .slice A3 ts.length c3, .slice A4 th.length c4, .slice A5 el.length c5] 109)) := (by repeat (first | exact Below.refl _ _ | apply below_alloc | apply pw_below_drewN | apply below_drew1 | (refine Below.setCell ?_ (by first | (simp; done) | (simp; omega) | omega) _) ))
        have p0 := (hP).at 0 _ rfl
        have p1 := (hP).at 1 _ rfl
        have p2 := (hP).at 2 _ rfl
        have p3 := (hP).at 3 _ rfl
        have p4 := (hP).at 4 _ rfl
        have p5 := (hP).at 5 _ rfl
        have p6 := (hP).at 6 _ rfl
        have p7 := (hP).at 7 _ rfl
        have p8 := (hP).at 8 _ rfl
        have p9 := (hP).at 9 _ rfl
        have p10 := (hP).at 10 _ rfl
        have p11 := (hP).at 11 _ rfl
        go_enter Tryd.func115, Tryd.ntmps115
        go_wp2_with (go_at_call 52; (first | with_reducible refine (HI1.out _).mono ?_ | with_reducible refine (HI2.out _).mono ?_); rintro e w9 ⟨rfl, rfl⟩)
        refine (HB.out _).mono ?_
        rintro e w1 ⟨rfl, hb1⟩
        have hP1 := hP.below hb1 hP.lt
        have hB1 := hB.trans (hb1.mono hB.size)
        clear hP hB p0 p1 p2 p3 p4 p5 p6 p7 p8 p9 p10 p11 hb1
        have p0 := (hP1).at 0 _ rfl
        have p1 := (hP1).at 1 _ rfl
        have p2 := (hP1).at 2 _ rfl
        have p3 := (hP1).at 3 _ rfl
        have p4 := (hP1).at 4 _ rfl
        have p5 := (hP1).at 5 _ rfl
        have p6 := (hP1).at 6 _ rfl
        have p7 := (hP1).at 7 _ rfl
        have p8 := (hP1).at 8 _ rfl
        have p9 := (hP1).at 9 _ rfl
        have p10 := (hP1).at 10 _ rfl
        have p11 := (hP1).at 11 _ rfl
        go_wp2_with (go_at_call 52; (first | with_reducible refine (HI1.out _).mono ?_ | with_reducible refine (HI2.out _).mono ?_); rintro e w9 ⟨rfl, rfl⟩)
        go_ret
        exact ⟨rfl, hB1⟩
    · rw [decide_eq_false hp] at HB
      rw [if_neg (fun h => hp h.2.1)]
      clear h0 hp
      skip
      skip
      have hP : Blk (w.alloc (.cells #[.int .i64 kd, .slice A0 tx.length c0, .int .i64 tk, .int .i64 mt, .int .i64 pt, .slice A1 nm.length c1, .slice A2 ks.length c2, .bool ov, .int .i64 lm, .slice A3 ts.length c3, .slice A4 th.length c4, .slice A5 el.length c5] 109)) w.heap.size [.int .i64 kd, .slice A0 tx.length c0, .int .i64 tk, .int .i64 mt, .int .i64 pt, .slice A1 nm.length c1, .slice A2 ks.length c2, .bool ov, .int .i64 lm, .slice A3 ts.length c3, .slice A4 th.length c4, .slice A5 el.length c5] := Blk.made w _ _
      have hB : Below w.heap.size w (w.alloc (.cells #[.int .i64 kd, .slice A0 tx.length c0, .int .i64 tk, .int .i64 mt, .int .i64 pt, .slice A1 nm.length c1, .slice A2 ks.length c2, .bool ov, .int .i64 lm, .slice A3 ts.length c3, .slice A4 th.length c4, .slice A5 el.length c5] 109)) := (by repeat (first | exact Below.refl _ _ | apply below_alloc | apply pw_below_drewN | apply below_drew1 | (refine Below.setCell ?_ (by first | (simp; done) | (simp; omega) | omega) _) ))
      have p0 := (hP).at 0 _ rfl
      have p1 := (hP).at 1 _ rfl
      have p2 := (hP).at 2 _ rfl
      have p3 := (hP).at 3 _ rfl
      have p4 := (hP).at 4 _ rfl
      have p5 := (hP).at 5 _ rfl
      have p6 := (hP).at 6 _ rfl
      have p7 := (hP).at 7 _ rfl
      have p8 := (hP).at 8 _ rfl
      have p9 := (hP).at 9 _ rfl
      have p10 := (hP).at 10 _ rfl
      have p11 := (hP).at 11 _ rfl
      go_enter Tryd.func115, Tryd.ntmps115
      go_wp2_with (go_at_call 52; (first | with_reducible refine (HI1.out _).mono ?_ | with_reducible refine (HI2.out _).mono ?_); rintro e w9 ⟨rfl, rfl⟩)
      refine (HB.out _).mono ?_
      rintro e w1 ⟨rfl, hb1⟩
      have hP1 := hP.below hb1 hP.lt
      have hB1 := hB.trans (hb1.mono hB.size)
      clear hP hB p0 p1 p2 p3 p4 p5 p6 p7 p8 p9 p10 p11 hb1
      have p0 := (hP1).at 0 _ rfl
      have p1 := (hP1).at 1 _ rfl
      have p2 := (hP1).at 2 _ rfl
      have p3 := (hP1).at 3 _ rfl
      have p4 := (hP1).at 4 _ rfl
      have p5 := (hP1).at 5 _ rfl
      have p6 := (hP1).at 6 _ rfl
      have p7 := (hP1).at 7 _ rfl
      have p8 := (hP1).at 8 _ rfl
      have p9 := (hP1).at 9 _ rfl
      have p10 := (hP1).at 10 _ rfl
      have p11 := (hP1).at 11 _ rfl
      go_wp2_with (go_at_call 52; (first | with_reducible refine (HI1.out _).mono ?_ | with_reducible refine (HI2.out _).mono ?_); rintro e w9 ⟨rfl, rfl⟩)
      go_ret
      exact ⟨rfl, hB1⟩
  · rw [if_neg (fun h => h0 h.1)]
    have r0 : (tk == 0) = false := by rw [beq_eq_false_iff_ne]; exact h0
    clear h0
    skip
    skip
    have hP : Blk (w.alloc (.cells #[.int .i64 kd, .slice A0 tx.length c0, .int .i64 tk, .int .i64 mt, .int .i64 pt, .slice A1 nm.length c1, .slice A2 ks.length c2, .bool ov, .int .i64 lm, .slice A3 ts.length c3, .slice A4 th.length c4, .slice A5 el.length c5] 109)) w.heap.size [.int .i64 kd, .slice A0 tx.length c0, .int .i64 tk, .int .i64 mt, .int .i64 pt, .slice A1 nm.length c1, .slice A2 ks.length c2, .bool ov, .int .i64 lm, .slice A3 ts.length c3, .slice A4 th.length c4, .slice A5 el.length c5] := Blk.made w _ _
    have hB : Below w.heap.size w (w.alloc (.cells #[.int .i64 kd, .slice A0 tx.length c0, .int .i64 tk, .int .i64 mt, .int .i64 pt, .slice A1 nm.length c1, .slice A2 ks.length c2, .bool ov, .int .i64 lm, .slice A3 ts.length c3, .slice A4 th.length c4, .slice A5 el.length c5] 109)) := (by repeat (first | exact Below.refl _ _ | apply below_alloc | apply pw_below_drewN | apply below_drew1 | (refine Below.setCell ?_ (by first | (simp; done) | (simp; omega) | omega) _) ))
    have p0 := (hP).at 0 _ rfl
    have p1 := (hP).at 1 _ rfl
    have p2 := (hP).at 2 _ rfl
    have p3 := (hP).at 3 _ rfl
    have p4 := (hP).at 4 _ rfl
    have p5 := (hP).at 5 _ rfl
    have p6 := (hP).at 6 _ rfl
    have p7 := (hP).at 7 _ rfl
    have p8 := (hP).at 8 _ rfl
    have p9 := (hP).at 9 _ rfl
    have p10 := (hP).at 10 _ rfl
    have p11 := (hP).at 11 _ rfl
    go_enter Tryd.func115, Tryd.ntmps115
    go_wp2_with (go_at_call 52; (first | with_reducible refine (HI1.out _).mono ?_ | with_reducible refine (HI2.out _).mono ?_); rintro e w9 ⟨rfl, rfl⟩)
    go_ret
    exact ⟨rfl, hB⟩
end Go.Proofs.YtijdghplfhfpaaaDoor.H

/- Scripts: the reference's form of commands, whole. -/
namespace Go.Proofs.YtijdghplfhfpaaaDoor.H
open Go.RowKit Go.Proofs.YtijdghplfhfpaaaDoorW.PrintWords Go.Proofs.YtijdghplfhfpaaaDoorW.PrintLast Go.Proofs.YtijdghplfhfpaaaDoor.U
set_option linter.unusedVariables false
set_option linter.unusedSimpArgs false
theorem formC_iff {n : Nat} {kd : Int} {tx : List ByteArray} {tk mt pt : Int} {nm ks : List ByteArray} {ov : Bool} {lm : Int} {ts : List (TestN n)} {th el : List (CmdN n)} {P : Prop} (hP : (if kd = 1 ∨ kd = 8 ∨ kd = 9 then 0 < tx.length else if 5 ≤ kd ∧ kd ≤ 7 then tx.length = 1 else tx.length = 0) ↔ P) :
    formC (⟨kd, tx, ⟨tk, mt, pt, nm, ks, ov, lm, ts⟩, th, el⟩ : CmdF (TestF (TestN n)) (CmdN n)) ↔ (tk = 0 ∧ (nm.length = 0 ∧ ks.length = 0 ∧ mt = 0 ∧ pt = 0 ∧ ov = false ∧ lm = 0 ∧ ts.length = 0) ∧ th.length = 0 ∧ el.length = 0 ∧ P) := by
  constructor
  · rintro ⟨⟨a1, a2, a3, a4, a5, a6, a7, a8⟩, h1, h2, h3⟩
    exact ⟨a1, ⟨a4, a5, a2, a3, a7, a8, a6⟩, h1, h2, hP.mp h3⟩
  · rintro ⟨a1, ⟨a4, a5, a2, a3, a7, a8, a6⟩, h1, h2, h3⟩
    exact ⟨⟨a1, a2, a3, a4, a5, a6, a7, a8⟩, h1, h2, hP.mpr h3⟩
theorem commandFault_step (n : Nat) (IHC : FtC n) (IHL : FtL n) : FtC (n + 1) := by
  intro c cs dp w hK h0 h10
  obtain ⟨A0, c0, tcs, A4, c4, A5, c5, rfl, hlen, hr0, hKt, hr4, hr5⟩ := cmd_K hK
  obtain ⟨A1, c1, A2, c2, A3, c3, rfl, _⟩ := test_K hKt
  obtain ⟨kd, tx, ⟨tk, mt, pt, nm, ks, ov, lm, ts⟩, th, el⟩ := c
  simp only at hr0 hKt hr4 hr5
  show Calls _ _ _ w fun e w' => e = .returned (.int .i64 (chkC (checkT (n + 1)) (kindC n) (checkC n) ⟨kd, tx, ⟨tk, mt, pt, nm, ks, ov, lm, ts⟩, th, el⟩ dp)) ∧ Below w.heap.size w w'
  unfold chkC
  simp only
  by_cases hk : kd < 1 ∨ 10 < kd
  · rw [if_pos hk]
    exact fc_kind n kd A0 c0 tx tk mt pt A1 c1 nm A2 c2 ks ov lm A3 c3 ts A4 c4 th A5 c5 el dp w hk
  · rw [if_neg hk]
    by_cases hd : 6 < dp
    · rw [if_pos hd]
      exact fc_deep n kd A0 c0 tx tk mt pt A1 c1 nm A2 c2 ks ov lm A3 c3 ts A4 c4 th A5 c5 el dp w (by omega) (by omega) hd
    · rw [if_neg hd]
      by_cases h2 : kd = 2
      · rw [if_pos h2]
        by_cases ht : 0 < tx.length
        · rw [if_pos ht]
          exact fc_texts n kd A0 c0 tx tk mt pt A1 c1 nm A2 c2 ks ov lm A3 c3 ts A4 c4 th A5 c5 el dp w h2 hd ht
        · rw [if_neg ht]
          have HT := fun w' (hb : Below w.heap.size w w') => testFault_calls (n + 1) ⟨tk, mt, pt, nm, ks, ov, lm, ts⟩ [.int .i64 tk, .int .i64 mt, .int .i64 pt, .slice A1 nm.length c1, .slice A2 ks.length c2, .bool ov, .int .i64 lm, .slice A3 ts.length c3] 1 w' ((kTestF (kTest n)).K_below hb hKt) (by decide) (by decide)
          have HH := fun w' (hb : Below w.heap.size w w') => IHL A4 c4 th (dp + 1) w' (Kd.C_below hr4 hb) (by omega) (by omega)
          have HE := fun w' (hb : Below w.heap.size w w') => IHL A5 c5 el (dp + 1) w' (Kd.C_below hr5 hb) (by omega) (by omega)
          by_cases v1 : checkT (n + 1) ⟨tk, mt, pt, nm, ks, ov, lm, ts⟩ 1 = 0
          · rw [if_pos v1]
            by_cases v2 : errs (fun x => checkC n x (dp + 1)) th = 0
            · rw [if_pos v2]
              by_cases he : el.length = 1
              · by_cases hk2 : kindC n (el[0]'(by omega)) = 2
                · rw [elsif_some he hk2]
                  exact fc_c n kd A0 c0 tx tk mt pt A1 c1 nm A2 c2 ks ov lm A3 c3 ts A4 c4 th A5 c5 el dp w _ hr5 h2 h0 hd (by omega) he true rfl _ _ v1 v2 HT HH
                    (fun w' hb => els_at n kd A0 c0 tx tk mt pt A1 c1 nm A2 c2 ks ov lm A3 c3 ts A4 c4 th A5 c5 el w' (Kd.C_below hr5 hb) he true (by rw [hk2]; rfl))
                    (fun cs w' hK' hb => IHC _ cs dp w' ((kCmd n).K_below hb hK') h0 h10)
                · rw [elsif_no he hk2]
                  exact fc_e n kd A0 c0 tx tk mt pt A1 c1 nm A2 c2 ks ov lm A3 c3 ts A4 c4 th A5 c5 el dp w _ h2 h0 hd (by omega) false rfl _ _ v1 v2 HT HH HE (fun w' hb => els_at n kd A0 c0 tx tk mt pt A1 c1 nm A2 c2 ks ov lm A3 c3 ts A4 c4 th A5 c5 el w' (Kd.C_below hr5 hb) he false (by rw [beq_eq_false_iff_ne]; exact hk2))
              · rw [elsif_not he]
                exact fc_e n kd A0 c0 tx tk mt pt A1 c1 nm A2 c2 ks ov lm A3 c3 ts A4 c4 th A5 c5 el dp w _ h2 h0 hd (by omega) false rfl _ _ v1 v2 HT HH HE (fun w' _ => els_no n kd A0 c0 tx tk mt pt A1 c1 nm A2 c2 ks ov lm A3 c3 ts A4 c4 th A5 c5 el w' he)
            · rw [if_neg v2]
              exact fc_h n kd A0 c0 tx tk mt pt A1 c1 nm A2 c2 ks ov lm A3 c3 ts A4 c4 th A5 c5 el dp w _ h2 h0 hd (by omega) v2 _ v1 HT HH
          · rw [if_neg v1]
            exact fc_t n kd A0 c0 tx tk mt pt A1 c1 nm A2 c2 ks ov lm A3 c3 ts A4 c4 th A5 c5 el dp w _ h2 h0 hd (by omega) v1 HT
      · rw [if_neg h2]
        rcases (by omega : kd = 1 ∨ kd = 8 ∨ kd = 9 ∨ (5 ≤ kd ∧ kd ≤ 7) ∨ (kd = 3 ∨ kd = 4 ∨ kd = 10)) with h | h | h | h | h
        · rw [ite_iff (formC_iff (by rw [if_pos (show kd = 1 ∨ kd = 8 ∨ kd = 9 by omega)]))]
          exact fn1_all n kd A0 c0 tx tk mt pt A1 c1 nm A2 c2 ks ov lm A3 c3 ts A4 c4 th A5 c5 el dp w (by omega) (by omega) h2 hd h
        · rw [ite_iff (formC_iff (by rw [if_pos (show kd = 1 ∨ kd = 8 ∨ kd = 9 by omega)]))]
          exact fn8_all n kd A0 c0 tx tk mt pt A1 c1 nm A2 c2 ks ov lm A3 c3 ts A4 c4 th A5 c5 el dp w (by omega) (by omega) h2 hd h
        · rw [ite_iff (formC_iff (by rw [if_pos (show kd = 1 ∨ kd = 8 ∨ kd = 9 by omega)]))]
          exact fn9_all n kd A0 c0 tx tk mt pt A1 c1 nm A2 c2 ks ov lm A3 c3 ts A4 c4 th A5 c5 el dp w (by omega) (by omega) h2 hd h
        · rw [ite_iff (formC_iff (by rw [if_neg (show ¬ (kd = 1 ∨ kd = 8 ∨ kd = 9) by omega), if_pos (show 5 ≤ kd ∧ kd ≤ 7 by omega)]))]
          exact fn5_all n kd A0 c0 tx tk mt pt A1 c1 nm A2 c2 ks ov lm A3 c3 ts A4 c4 th A5 c5 el dp w (by omega) (by omega) h2 hd h
        · rw [ite_iff (formC_iff (by rw [if_neg (show ¬ (kd = 1 ∨ kd = 8 ∨ kd = 9) by omega), if_neg (show ¬ (5 ≤ kd ∧ kd ≤ 7) by omega)]))]
          exact fn3_all n kd A0 c0 tx tk mt pt A1 c1 nm A2 c2 ks ov lm A3 c3 ts A4 c4 th A5 c5 el dp w (by omega) (by omega) h2 hd h
theorem commandFault_calls : ∀ n, FtC n
  | 0 => fun x => nomatch x
  | n + 1 => commandFault_step n (commandFault_calls n) (listFault_of n (commandFault_calls n))
theorem listFault_calls (n : Nat) : FtL n := listFault_of n (commandFault_calls n)
end Go.Proofs.YtijdghplfhfpaaaDoor.H

/- Scripts: the reference's commands shown, whole; its fault. -/
namespace Go.Proofs.YtijdghplfhfpaaaDoor.H
open Go.RowKit Go.Proofs.YtijdghplfhfpaaaDoorW.PrintWords Go.Proofs.YtijdghplfhfpaaaDoorW.PrintLast Go.Proofs.YtijdghplfhfpaaaDoor.U
set_option linter.unusedVariables false
set_option linter.unusedSimpArgs false
theorem restShown_step (n : Nat) (IHC : RsC n) (IHL : RsL n) : RsC (n + 1) := by
  intro c cs dp w hK hc hlim
  obtain ⟨A0, c0, tcs, A4, c4, A5, c5, rfl, _, r0, ht, r4, r5⟩ := cmd_K hK
  obtain ⟨A1, c1, A2, c2, A3, c3, rfl, _⟩ := test_K ht
  obtain ⟨kd, tx, ⟨tk', mt, pt, nm, ks, ov, lm, ts⟩, th, el⟩ := c
  obtain ⟨k1, k2, hd, hif⟩ := chkC_zero (show chkC (checkT (n + 1)) (kindC n) (checkC n) _ dp = 0 from hc)
  simp only at r0 ht r4 r5 k1 k2 hif ⊢
  have hlim' : 1 + tx.length + wtT (n + 1) ⟨tk', mt, pt, nm, ks, ov, lm, ts⟩ + (th.map (wtC n)).sum + (el.map (wtC n)).sum ≤ 1048576 := hlim
  have hSt := showT_len (n + 1) ⟨tk', mt, pt, nm, ks, ov, lm, ts⟩
  have hSh := flat_len (showC n) (wtC n) (showC_len n) th
  have hSe := flat_len (showC n) (wtC n) (showC_len n) el
  show Calls _ _ _ w fun e w' => ∃ v, e = .returned v ∧ Kd.R kAToken 119 w' w.heap.size (fun _ => True) v (shwC (showT (n + 1)) (kindC n) (restC n) (showC n) ⟨kd, tx, ⟨tk', mt, pt, nm, ks, ov, lm, ts⟩, th, el⟩) ∧ Below w.heap.size w w'
  unfold shwC
  simp only
  by_cases h2 : kd = 2
  · rw [if_pos h2]
    obtain ⟨v1, v2, v3, v4⟩ := hif h2
    have HT := fun W (hb : Below w.heap.size w W) => testShown_calls (n + 1) ⟨tk', mt, pt, nm, ks, ov, lm, ts⟩ [.int .i64 tk', .int .i64 mt, .int .i64 pt, .slice A1 nm.length c1, .slice A2 ks.length c2, .bool ov, .int .i64 lm, .slice A3 ts.length c3] 1 W ((kTestF (kTest n)).K_below hb ht) v1 (by omega)
    have HH := fun W (hb : Below w.heap.size w W) => IHL A4 c4 th (dp + 1) W (Kd.C_below r4 hb) v2 (by omega)
    by_cases he : el.length = 1
    · by_cases hk2 : kindC n (el[0]'(by omega)) = 2
      · have hsm := sum_mem (wtC n) el 0 (by omega)
        have hsl := showC_len n (el[0]'(by omega))
        rw [elsif_some he hk2]
        refine rs_c n kd A0 c0 tx tk' mt pt A1 c1 nm A2 c2 ks ov lm A3 c3 ts A4 c4 th A5 c5 el w _ _ _ h2 ?_ HT HH true (fun W hb => els_at n kd A0 c0 tx tk' mt pt A1 c1 nm A2 c2 ks ov lm A3 c3 ts A4 c4 th A5 c5 el W (Kd.C_below r5 hb) he true (by rw [beq_iff_eq]; exact hk2)) rfl he r5
          (fun cs W hK' hb => IHC _ cs dp W ((kCmd n).K_below hb hK') (v3 _ (elsif_some he hk2)) (by omega))
        simp only [showC, List.length_cons] at hsl
        omega
      · rw [elsif_no he hk2]
        simp only
        rw [if_pos (show 0 < el.length by omega)]
        exact rs_m n kd A0 c0 tx tk' mt pt A1 c1 nm A2 c2 ks ov lm A3 c3 ts A4 c4 th A5 c5 el w _ _ _ h2 (by show _ + _ + _ ≤ _; omega) HT HH false (fun W hb => els_at n kd A0 c0 tx tk' mt pt A1 c1 nm A2 c2 ks ov lm A3 c3 ts A4 c4 th A5 c5 el W (Kd.C_below r5 hb) he false (by rw [beq_eq_false_iff_ne]; exact hk2)) rfl (by omega)
          (fun W hb => IHL A5 c5 el (dp + 1) W (Kd.C_below r5 hb) (v4 (elsif_no he hk2)) (by omega))
    · rw [elsif_not he]
      simp only
      by_cases h0 : 0 < el.length
      · rw [if_pos h0]
        exact rs_m n kd A0 c0 tx tk' mt pt A1 c1 nm A2 c2 ks ov lm A3 c3 ts A4 c4 th A5 c5 el w _ _ _ h2 (by show _ + _ + _ ≤ _; omega) HT HH false (fun W hb => els_no n kd A0 c0 tx tk' mt pt A1 c1 nm A2 c2 ks ov lm A3 c3 ts A4 c4 th A5 c5 el W he) rfl h0
          (fun W hb => IHL A5 c5 el (dp + 1) W (Kd.C_below r5 hb) (v4 (elsif_not he)) (by omega))
      · rw [if_neg h0]
        exact rs_n n kd A0 c0 tx tk' mt pt A1 c1 nm A2 c2 ks ov lm A3 c3 ts A4 c4 th A5 c5 el w _ _ [] h2 (by show _ + _ + _ ≤ _; simp only [List.length_nil]; omega) HT HH false (fun W hb => els_no n kd A0 c0 tx tk' mt pt A1 c1 nm A2 c2 ks ov lm A3 c3 ts A4 c4 th A5 c5 el W he) rfl (by omega)
  · rw [if_neg h2]
    by_cases h0 : 0 < tx.length
    · rw [if_pos h0]
      exact rs_t n kd A0 c0 tx tk' mt pt A1 c1 nm A2 c2 ks ov lm A3 c3 ts A4 c4 th A5 c5 el w h2 h0 r0 (by omega)
    · rw [if_neg h0]
      exact rs_o n kd A0 c0 tx tk' mt pt A1 c1 nm A2 c2 ks ov lm A3 c3 ts A4 c4 th A5 c5 el w h2 (by omega) (by omega)
theorem restShown_calls : ∀ n, RsC n
  | 0 => fun x => nomatch x
  | n + 1 => restShown_step n (restShown_calls n) (listShown_of n (restShown_calls n))
theorem listShown_calls (n : Nat) : RsL n := listShown_of n (restShown_calls n)
set_option maxHeartbeats 1000000 in
set_option maxRecDepth 100000 in
theorem commandsFault_calls (n : Nat) (A : Option Addr) (c : Nat) (l : List (CmdN n)) (w : World) (hr : (kCmd n).C w A l.length l) (hw : (l.map (wtC n)).sum ≤ 1048576) :
    Calls Tryd.prog 36 #[.slice A l.length c] w fun e w' => e = .returned (.int .i64 (faultV n l)) ∧ Below w.heap.size w w' := by
  have HF := Lib.hid (listFault_calls n A c l 0 w hr (by decide) (by decide))
  unfold faultV
  by_cases h : errs (fun x => checkC n x 0) l = 0
  · rw [if_pos h]
    have HL := Lib.hid (fun W (hb : Below w.heap.size w W) => listShown_calls n A c l 0 W (Kd.C_below hr hb) h hw)
    have hfl := Lib.hid (flat_len (showC n) (wtC n) (showC_len n) l)
    rw [h] at HF
    clear h hr
    generalize l.flatMap (showC n) = F at *
    generalize hV : (if 400 < F.length then (5 : Int) else 0) = V
    replace hV := Lib.hid hV
    go_enter Tryd.func36, Tryd.ntmps36
    go_wp2_with fail
    refine HF.out.mono ?_
    rintro e w1 ⟨rfl, hb1⟩
    have hV2 := hV.out
    clear hV
    by_cases h4 : 400 < F.length
    · rw [if_pos h4] at hV2
      subst hV2
      have j4 : (400 : Int) < (F.length : Int) := by omega
      go_wp2_with fail
      refine (HL.out _ hb1).mono ?_
      rintro e w2 ⟨v, rfl, hR, hb2⟩
      obtain ⟨AL, cL, rfl, hcL, hCL⟩ := C_of hR
      go_wp2_with fail
      go_ret
      exact ⟨rfl, hb1.trans (hb2.mono hb1.size)⟩
    · rw [if_neg h4] at hV2
      subst hV2
      have j4 : ¬ (400 : Int) < (F.length : Int) := by omega
      go_wp2_with fail
      refine (HL.out _ hb1).mono ?_
      rintro e w2 ⟨v, rfl, hR, hb2⟩
      obtain ⟨AL, cL, rfl, hcL, hCL⟩ := C_of hR
      go_wp2_with fail
      go_ret
      exact ⟨rfl, hb1.trans (hb2.mono hb1.size)⟩
  · rw [if_neg h]
    generalize errs (fun x => checkC n x 0) l = v at *
    have hv : (v == 0) = false := by rw [beq_eq_false_iff_ne]; exact h
    clear h
    go_enter Tryd.func36, Tryd.ntmps36
    go_wp2_with fail
    refine HF.out.mono ?_
    rintro e w1 ⟨rfl, hb1⟩
    go_wp2_with fail
    go_ret
    exact ⟨rfl, hb1⟩
end Go.Proofs.YtijdghplfhfpaaaDoor.H

/- Scripts: script.Show and the reference's CommandsShown. -/
namespace Go.Proofs.YtijdghplfhfpaaaDoor.H
open Go.RowKit Go.Proofs.YtijdghplfhfpaaaDoorW.PrintWords Go.Proofs.YtijdghplfhfpaaaDoorW.PrintLast Go.Proofs.YtijdghplfhfpaaaDoor.U
set_option linter.unusedVariables false
set_option linter.unusedSimpArgs false
theorem fault_errs {n : Nat} {l : List (CmdN n)} (h : faultV n l = 0) : errs (fun x => checkC n x 0) l = 0 := by
  unfold faultV at h
  split at h
  · assumption
  · exact h
/-- What is shown, and the Errno. -/
def shownV (n : Nat) (l : List (CmdN n)) : List AToken := if faultV n l = 0 then l.flatMap (showC n) else []
set_option maxHeartbeats 1000000 in
set_option maxRecDepth 100000 in
theorem scriptShow_bad (n : Nat) (A : Option Addr) (c : Nat) (l : List (CmdN n)) (w : World) (hr : (kCmd n).C w A l.length l) (hw : (l.map (wtC n)).sum ≤ 1048576) (v : Int) (hv : faultV n l = v) (h0 : ¬ v = 0) (hT : TabC w) :
    Calls Tryd.prog 38 #[.slice A l.length c] w fun e w' => e = .returned (.tuple #[.slice none 0 0, .int .i64 v]) ∧ Below w.heap.size w w' := by
  have HC := Lib.hid (scriptCheck_calls n A c l w hr hw hT)
  rw [hv] at HC
  have hvb : (v != 0) = true := bne_iff_ne.mpr h0
  clear hv h0 hr
  go_enter Tryd.func38, Tryd.ntmps38
  go_wp2_with fail
  refine HC.out.mono ?_
  rintro e w1 ⟨rfl, hb1⟩
  go_wp2_with fail
  go_ret2
  exact ⟨rfl, hb1⟩
set_option maxHeartbeats 2000000 in
set_option maxRecDepth 100000 in
theorem scriptShow_good (n : Nat) (A : Option Addr) (c : Nat) (l : List (CmdN n)) (w : World) (hr : (kCmd n).C w A l.length l) (hw : (l.map (wtC n)).sum ≤ 1048576) (hv : errs (fun x => checkC n x 0) l = 0) (hf : faultV n l = 0) (hT : TabC w) :
    Calls Tryd.prog 38 #[.slice A l.length c] w fun e w' => ∃ v, e = .returned (.tuple #[v, .int .i64 0]) ∧ Kd.R kAToken 119 w' w.heap.size (fun _ => True) v (l.flatMap (showC n)) ∧ Below w.heap.size w w' := by
  have HC := Lib.hid (scriptCheck_calls n A c l w hr hw hT)
  rw [hf] at HC
  have h63 := hr.2.1
  have hst := Lib.hid (sum_take (wtC n) l)
  have hhl := Lib.hid (fun k => flat_len (showC n) (wtC n) (showC_len n) (l.take k))
  have hc := Lib.hid (fun k hk => errs_all hv k hk)
  replace hr := Lib.hid hr
  replace hT := Lib.hid hT
  replace hw := Lib.hid hw
  clear hv hf
  go_enter Tryd.func38, Tryd.ntmps38
  go_wp2_with fail
  refine HC.out.mono ?_
  rintro e w1 ⟨rfl, hb1⟩
  go_wp2_with fail
  have hbb : ∃ b, b = w1.heap.size := ⟨_, rfl⟩
  obtain ⟨b, hbe⟩ := hbb
  obtain ⟨w2, hw2e⟩ : ∃ w2 : World, w2 = w1.alloc (.cells #[.slice none 0 0] 114) := ⟨_, rfl⟩
  have hK0 : Blk w2 b [.slice none 0 0] := by rw [hw2e, hbe]; exact Blk.made w1 _ _
  have hW0 : WrAt w2 b [] := ⟨none, 0, 0, hK0, Kd.R_nil _ _ _ _ _⟩
  have hB2 : Below w.heap.size w w2 := by rw [hw2e]; exact hb1.alloc hb1.size _
  have hzb : w.heap.size ≤ b := by rw [hbe]; exact hb1.size
  rw [← hw2e, ← hbe]
  replace hw2e := Lib.hid hw2e
  replace hbe := Lib.hid hbe
  clear hb1
  go_loopw [17] (fun i wr => ∃ k : Nat, k ≤ l.length ∧ i = .int .i64 k ∧ WrAt wr b ((l.take k).flatMap (showC n)) ∧ Wrote b w2 wr) (fun i _ => l.length - (intOf i).toNat)
  case atStart => exact ⟨0, Nat.zero_le _, rfl, by simpa using hW0, Wrote.refl _ _⟩
  case round =>
    obtain ⟨k, hk, rfl, hW, hR⟩ := hrel
    have hbw := hW.lt
    have hB : Below w.heap.size w wr := hB2.trans (hR.1.mono hzb)
    by_cases hlt : k < l.length
    · have hU : Und (kCmd n) wr b A l := ⟨w, hzb, hB, hr.out⟩
      obtain ⟨ad, cx, e1', hKx, hxx⟩ := hU.elem (kCmd_sz n) k hlt
      obtain ⟨X1, l1, C1, x2, x3, x4, X5, l5, C5, X6, l6, C6, x7, x8, X9, l9, C9, X10, l10, C10, X11, l11, C11, rfl⟩ := cmdN_K hKx.now
      subst e1'
      obtain ⟨hx0, hxj⟩ := hxx wr (Below.refl _ _)
      have q0 := hx0 _ rfl; have q1 := hxj 1 _ (by decide) rfl; have q2 := hxj 2 _ (by decide) rfl; have q3 := hxj 3 _ (by decide) rfl; have q4 := hxj 4 _ (by decide) rfl; have q5 := hxj 5 _ (by decide) rfl; have q6 := hxj 6 _ (by decide) rfl; have q7 := hxj 7 _ (by decide) rfl; have q8 := hxj 8 _ (by decide) rfl; have q9 := hxj 9 _ (by decide) rfl; have q10 := hxj 10 _ (by decide) rfl; have q11 := hxj 11 _ (by decide) rfl
      clear hx0 hxj hxx hU
      have hts := List.take_succ_eq_append_getElem hlt
      have hTb := tabs_of hT.out hB hzb
      have HX := Lib.hid (fun l0 W (h : Below b wr W) hW hl => (writer_calls n).2 (l[k]'hlt) _ 0 b l0 W (hKx.step h) (hc.out k hlt) (hTb.step h) hW hl)
      have hsum : ((l.take k).map (wtC n)).sum + wtC n l[k] ≤ (l.map (wtC n)).sum := hst.out k hlt
      have hlen := hhl.out k
      have hsn : (l.take (k + 1)).flatMap (showC n) = (l.take k).flatMap (showC n) ++ showC n l[k] := by rw [hts, List.flatMap_append]; simp only [List.flatMap_cons, List.flatMap_nil, List.append_nil]
      have hlim2 := Lib.hid (show ((l.take k).flatMap (showC n)).length + 8 * wtC n l[k] ≤ 1073741824 by have := hw.out; omega)
      replace hsn := Lib.hid hsn
      clear hts hsum hlen hKx hTb
      generalize kindC n l[k] = x0 at *
      generalize showC n l[k] = Sx at *
      generalize wtC n l[k] = wt at *
      generalize (l.take k).flatMap (showC n) = H at *
      have i0' : (0 : Int) ≤ (k : Int) := by omega
      have i1' : (k : Int) < (l.length : Int) := by omega
      have hO := Blk.made wr #[.int .i64 x0, .slice X1 l1 C1, .int .i64 x2, .int .i64 x3, .int .i64 x4, .slice X5 l5 C5, .slice X6 l6 C6, .bool x7, .int .i64 x8, .slice X9 l9 C9, .slice X10 l10 C10, .slice X11 l11 C11] 109
      have o0 := hO.at 0 _ rfl
      have o1 := hO.at 1 _ rfl
      have o2 := hO.at 2 _ rfl
      have o3 := hO.at 3 _ rfl
      have o4 := hO.at 4 _ rfl
      have o5 := hO.at 5 _ rfl
      have o6 := hO.at 6 _ rfl
      have o7 := hO.at 7 _ rfl
      have o8 := hO.at 8 _ rfl
      have o9 := hO.at 9 _ rfl
      have o10 := hO.at 10 _ rfl
      have o11 := hO.at 11 _ rfl
      have hW2 := hW.below ((Below.refl _ _).alloc (Nat.le_refl _) (.cells #[.int .i64 x0, .slice X1 l1 C1, .int .i64 x2, .int .i64 x3, .int .i64 x4, .slice X5 l5 C5, .slice X6 l6 C6, .bool x7, .int .i64 x8, .slice X9 l9 C9, .slice X10 l10 C10, .slice X11 l11 C11] 109))
      have hR2 := hR.alloc (Nat.le_of_lt hbw) (.cells #[.int .i64 x0, .slice X1 l1 C1, .int .i64 x2, .int .i64 x3, .int .i64 x4, .slice X5 l5 C5, .slice X6 l6 C6, .bool x7, .int .i64 x8, .slice X9 l9 C9, .slice X10 l10 C10, .slice X11 l11 C11] 109)
      replace hW2 := Lib.hid hW2
      clear hW hR hW0 hK0
      go_wp2_with fail
      refine (HX.out _ _ ((Below.refl b wr).alloc (Nat.le_of_lt hbw) _) hW2.out hlim2.out).mono ?_
      rintro e w4 ⟨rfl, hW4, hR4⟩
      replace hW4 := Lib.hid hW4
      go_wp2_with fail
      go_roundw
      case rel => exact ⟨k + 1, hlt, by go_num, by rw [hsn.out]; exact hW4.out, hR2.trans hR4⟩
      case measure => simp [intOf]; omega
    · obtain rfl : k = l.length := by omega
      rw [List.take_length] at hW
      have i1' : ¬ (l.length : Int) < (l.length : Int) := by omega
      obtain ⟨A9, n9, c9, hK9, hRow⟩ := hW
      have b0 := hK9.at 0 _ rfl
      have bl9 := hK9.lt
      go_wp2_with fail
      go_ret2
      exact ⟨_, rfl, Kd.R_lower hRow (by omega), hB⟩
theorem scriptShow_calls (n : Nat) (A : Option Addr) (c : Nat) (l : List (CmdN n)) (w : World) (hr : (kCmd n).C w A l.length l) (hw : (l.map (wtC n)).sum ≤ 1048576) (hT : TabC w) :
    Calls Tryd.prog 38 #[.slice A l.length c] w fun e w' => ∃ v, e = .returned (.tuple #[v, .int .i64 (faultV n l)]) ∧ Kd.R kAToken 119 w' w.heap.size (fun _ => True) v (shownV n l) ∧ Below w.heap.size w w' := by
  unfold shownV
  by_cases h : faultV n l = 0
  · rw [if_pos h, h]; exact scriptShow_good n A c l w hr hw (fault_errs h) h hT
  · rw [if_neg h]
    exact (scriptShow_bad n A c l w hr hw _ rfl h hT).mono fun e w' ⟨he, hb⟩ => ⟨_, he, Kd.R_nil _ _ _ _ _, hb⟩
set_option maxHeartbeats 1000000 in
set_option maxRecDepth 100000 in
theorem commandsShown_calls (n : Nat) (A : Option Addr) (c : Nat) (l : List (CmdN n)) (w : World) (hr : (kCmd n).C w A l.length l) (hw : (l.map (wtC n)).sum ≤ 1048576) :
    Calls Tryd.prog 39 #[.slice A l.length c] w fun e w' => ∃ v, e = .returned (.tuple #[v, .int .i64 (faultV n l)]) ∧ Kd.R kAToken 119 w' w.heap.size (fun _ => True) v (shownV n l) ∧ Below w.heap.size w w' := by
  unfold shownV
  have HF := Lib.hid (commandsFault_calls n A c l w hr hw)
  by_cases h : faultV n l = 0
  · rw [if_pos h, h]
    have HL := Lib.hid (fun W (hb : Below w.heap.size w W) => listShown_calls n A c l 0 W (Kd.C_below hr hb) (fault_errs h) hw)
    rw [h] at HF
    clear h hr
    generalize l.flatMap (showC n) = F at *
    go_enter Tryd.func39, Tryd.ntmps39
    go_wp2_with fail
    refine HF.out.mono ?_
    rintro e w1 ⟨rfl, hb1⟩
    have hz := hb1.size
    go_wp2_with fail
    refine (HL.out _ hb1).mono ?_
    rintro e w2 ⟨v, rfl, hR, hb2⟩
    go_wp2_with fail
    go_ret2
    exact ⟨_, rfl, Kd.R_lower hR hz, hb1.trans (hb2.mono hz)⟩
  · rw [if_neg h]
    generalize faultV n l = v at *
    have hv : (v != 0) = true := bne_iff_ne.mpr h
    clear h
    go_enter Tryd.func39, Tryd.ntmps39
    go_wp2_with fail
    refine HF.out.mono ?_
    rintro e w1 ⟨rfl, hb1⟩
    go_wp2_with fail
    go_ret2
    exact ⟨_, rfl, Kd.R_nil _ _ _ _ _, hb1⟩
end Go.Proofs.YtijdghplfhfpaaaDoor.H

/- Tokens: copied; compared. -/
namespace Go.Proofs.YtijdghplfhfpaaaDoor.H
open Go.RowKit Go.Proofs.YtijdghplfhfpaaaDoorW.PrintWords Go.Proofs.YtijdghplfhfpaaaDoorW.PrintLast Go.Proofs.YtijdghplfhfpaaaDoor.U
set_option linter.unusedVariables false
set_option linter.unusedSimpArgs false
def eqbAToken (x y : AToken) : Bool := x.kind == y.kind && (x.text.toList == y.text.toList && (x.number == y.number))
theorem eqbAToken_iff {x y : AToken} : eqbAToken x y = true ↔ x = y := by
  cases x; cases y
  simp only [eqbAToken, Bool.and_eq_true, beq_iff_eq, ByteArray.toList_eq, bytes_iff, AToken.mk.injEq]
theorem eqbAToken_self (x : AToken) : eqbAToken x x = true := eqbAToken_iff.2 rfl
theorem eqAToken (d : Nat) (w : World) (x_kind : Int) (x_text : ByteArray) (x_number : Int) (y_kind : Int) (y_text : ByteArray) (y_number : Int) :
    (Op.equalIn (d + 2) 119 (.agg #[.int .i64 x_kind, .string x_text, .int .i64 x_number]) (.agg #[.int .i64 y_kind, .string y_text, .int .i64 y_number])).run Tryd.prog w = .ok (eqbAToken ⟨x_kind, x_text, x_number⟩ ⟨y_kind, y_text, y_number⟩) w := by
  refine eqA_of Tryd.underlying119 (by kernel_rfl) ?_
  refine eqf_cons (by rfl) (by go_simp; rfl) (by go_simp; rfl) (by go_simp) ?_
  refine eqf_cons (by rfl) (by go_simp; rfl) (by go_simp; rfl) (by go_simp) ?_
  exact eqf_last (by rfl) (by go_simp; rfl) (by go_simp; rfl) (by go_simp)
attribute [local go_sem high] eqAToken
attribute [local go_sem high] eqbAToken_self
set_option maxHeartbeats 1000000 in
set_option maxRecDepth 100000 in
theorem sameTokens_calls (A : Option Addr) (c : Nat) (A2 : Option Addr) (c2 : Nat) (l : List AToken) (w : World) (hr : Kd.C kAToken w A l.length l) (hr2 : Kd.C kAToken w A2 l.length l) :
    Calls Tryd.prog 40 #[.slice A l.length c, .slice A2 l.length c2] w fun e w' => e = .returned (.bool true) ∧ Below w.heap.size w w' := by
  have h63 := hr.2.1
  go_enter Tryd.func40, Tryd.ntmps40
  go_wp2
  go_loopw [5] (fun i wr => ∃ k : Nat, k ≤ l.length ∧ i = .int .i64 k ∧ ∃ q, wr = w.drewN q) (fun i _ => l.length - (intOf i).toNat)
  case atStart => exact ⟨0, Nat.zero_le _, rfl, 0, rfl⟩
  case round =>
    obtain ⟨k, hk, rfl, q, rfl⟩ := hrel
    by_cases hlt : k < l.length
    · obtain ⟨ad, e1, hx0, hxj⟩ := flat_at hr k hlt
      obtain ⟨ad2, e2, hy0, hyj⟩ := flat_at hr2 k hlt
      subst e1 e2
      have q0 := hx0 _ rfl; have q1 := hxj 1 _ (by decide) rfl; have q2 := hxj 2 _ (by decide) rfl
      have r0 := hy0 _ rfl; have r1 := hyj 1 _ (by decide) rfl; have r2 := hyj 2 _ (by decide) rfl
      clear hx0 hxj hy0 hyj
      have i0 : (0 : Int) ≤ (k : Int) := by omega
      have i1 : (k : Int) < (l.length : Int) := by omega
      go_wp2
      go_quiet (fail)
      go_wp2
      go_roundw
      case rel => exact ⟨k + 1, by omega, by go_num, _, rfl⟩
      case measure => simp [intOf]; omega
    · obtain rfl : k = l.length := by omega
      go_wp2
      go_ret
      exact ⟨rfl, by first | exact Below.refl _ _ | exact pw_below_drewN (Below.refl _ _) _⟩
end Go.Proofs.YtijdghplfhfpaaaDoor.H

/- Scripts: what comes in as commands is a tree of some depth, not greater than its bulk. -/
namespace Go.Proofs.YtijdghplfhfpaaaDoor.UB
open Go.ChangeMaps (open_string)
open Go.RowKit Go.Proofs.YtijdghplfhfpaaaDoorW.PrintWords Go.ChangeShapes Go.WideShapes Go.Proofs.YtijdghplfhfpaaaDoor.U Go.Proofs.YtijdghplfhfpaaaDoor.H
def OpensW (P : Program) {α : Type} (n : Nat) (t : TypeId) (d : Kd α) (wt : α → Nat) : Prop :=
  ∀ {H : Type} (enc : TypeId × Value → H) (W : World) (base : Nat) (spare : Nat → Bool) (held : Bool) (cs : List Value) (x : DataW H × List MemPlace),
    DataW.trod enc P W base spare held n t cs = some x → ∃ y, d.K W y cs ∧ wt y ≤ Rows.uptoBulk x.1
section
variable {P : Program} {t e : TypeId} {α β : Type} {d : Kd α} {d2 : Kd β} {wt : α → Nat} {wt2 : β → Nat} {n : Nat}
theorem OpensW.mono {wt' : α → Nat} (h : OpensW P n t d wt) (hw : ∀ y, wt' y ≤ wt y) : OpensW P n t d wt' := by
  intro H enc W base spare held cs x hx
  obtain ⟨y, hy, hb⟩ := h enc W base spare held cs x hx
  exact ⟨y, hy, Nat.le_trans (hw y) hb⟩
theorem opensW_int {k : IntKind} (hu : P.underlying t = some (.int k)) : OpensW P n t (Kd.int k) (fun _ => 0) := by
  intro H enc W base spare held cs x h
  obtain ⟨y, rfl, rfl, hy⟩ := DataW.trod_int hu h
  exact ⟨y, rfl, Nat.zero_le _⟩
theorem opensW_bool (hu : P.underlying t = some .bool) : OpensW P n t Kd.bool (fun _ => 0) := by
  intro H enc W base spare held cs x h
  obtain ⟨y, rfl, rfl⟩ := DataW.trod_bool hu h
  exact ⟨y, rfl, Nat.zero_le _⟩
theorem opensW_string (hu : P.underlying t = some .string) : OpensW P n t Kd.string (fun _ => 1) := by
  intro H enc W base spare held cs x h
  obtain ⟨y, rfl, rfl, hy⟩ := DataW.trod_string hu h
  exact ⟨y, rfl, bulk_pos _⟩
theorem sum_bulk {H : Type} (wt : α → Nat) : ∀ (l : List α) (xs : List (DataW H)), l.length = xs.length → (∀ (i : Nat) y, l[i]? = some y → ∃ x, xs[i]? = some x ∧ wt y ≤ Rows.uptoBulk x) → (l.map wt).sum ≤ Rows.uptoBulkAll xs
  | [], xs, _, _ => by simp
  | y :: l, [], h, _ => by simp at h
  | y :: l, x :: xs, h, hp => by
    have h1 := sum_bulk wt l xs (by simpa using h) (fun i z hz => hp (i + 1) z hz)
    obtain ⟨x', hx, hw⟩ := hp 0 y rfl
    obtain rfl : x = x' := by simpa using hx
    simp only [List.map_cons, List.sum_cons, Rows.uptoBulkAll]
    omega
theorem opensW_slice (hu : P.underlying t = some (.slice e)) (hs : P.cellsOf e = d.sz) (hO : ∀ m, m < n → OpensW P m e d wt) :
    OpensW P n t (Kd.slice e d) (fun l => (l.map wt).sum) := by
  intro H enc W base spare held cs x h
  rcases DataW.trod_slice hu h with ⟨rfl, rfl⟩ | ⟨a, len, cap, elems, rest, n', hn, rfl, rfl, hb, hl, hc, hlen, hel, hsp, hns⟩
  · exact ⟨[], ⟨none, 0, rfl, Nat.zero_le _, C_none _ _⟩, by simp⟩
  · have key : ∀ i, i < len → ∃ y, (∃ c, c.length = d.sz ∧ d.K W y c ∧ ∀ j u, c[j]? = some u → W.cell? (a.add (i * d.sz + j)) = some u) ∧ ∃ x, (elems.map (·.1))[i]? = some x ∧ wt y ≤ Rows.uptoBulk x := by
      intro i hi
      have h1 := hel i hi
      rw [List.getElem?_eq_getElem (by omega)] at h1
      obtain ⟨c, hc1, hc2⟩ := Option.bind_eq_some_iff.1 h1
      obtain ⟨y, hy, hok⟩ := hO n' (by omega) enc W base spare held c _ hc2
      obtain ⟨hcl, hcg⟩ := cells_get hc1
      refine ⟨y, ⟨c, hcl.trans hs, hy, fun j u hju => ?_⟩, elems[i].1, by simp [List.getElem?_map, List.getElem?_eq_getElem (show i < elems.length by omega)], hok⟩
      have := hcg j u hju
      rwa [Go.Deep.add_add, hs] at this
    obtain ⟨l, hll, hlp⟩ := list_of len key
    have h63 : len ≤ 9223372036854775807 := by simp only [maxLen] at hc; omega
    refine ⟨l, ⟨some a, cap, by rw [hll], by omega, ⟨rfl, by omega, fun _ => ⟨a, rfl, fun j p hj => (hlp j p hj).1⟩⟩⟩, ?_⟩
    have := sum_bulk wt l (elems.map (·.1)) (by rw [hll, List.length_map]; omega) (fun i y hy => (hlp i y hy).2)
    simp only [Rows.uptoBulk]
    omega
def OpensFW (P : Program) {α : Type} (n : Nat) (fs : List Field) (off len : Nat) (d : Kd α) (wt : α → Nat) : Prop :=
  ∀ {H : Type} (enc : TypeId × Value → H) (W : World) (base : Nat) (spare : Nat → Bool) (held : Bool) (cs : List Value) (xs : List (DataW H × List MemPlace)), cs.length = len →
    xs.length = fs.length → (∀ (i : Nat) (f : Field), fs[i]? = some f → DataW.trod enc P W base spare held n f.type ((cs.drop f.offset).take (P.cellsOf f.type)) = xs[i]?) →
    ∃ y, d.K W y (cs.drop off) ∧ wt y ≤ Rows.uptoBulkAll (xs.map (·.1))
theorem opensFW_one {f : Field} {off len : Nat} (ho : f.offset = off) (hc : off + P.cellsOf f.type = len) (hO : OpensW P n f.type d wt) : OpensFW P n [f] off len d wt := by
  intro H enc W base spare held cs xs hl hx h
  match xs, hx with
  | [x], _ =>
    have h0 := h 0 f rfl
    rw [ho, List.take_of_length_le (by rw [List.length_drop]; omega)] at h0
    obtain ⟨y, hy, hw⟩ := hO enc W base spare held _ x h0
    refine ⟨y, hy, ?_⟩
    simp only [List.map_cons, List.map_nil, Rows.uptoBulkAll]
    omega
theorem opensFW_cons {f : Field} {fs : List Field} {off len : Nat} (ho : f.offset = off) (hs : P.cellsOf f.type = d.sz) (hO : OpensW P n f.type d wt) (hF : OpensFW P n fs (off + d.sz) len d2 wt2) :
    OpensFW P n (f :: fs) off len (Kd.pair d d2) (fun y => wt y.1 + wt2 y.2) := by
  intro H enc W base spare held cs xs hl hx h
  match xs, hx with
  | x :: xs, hx =>
    have h0 := h 0 f rfl
    rw [ho, hs] at h0
    obtain ⟨y, hy, hok⟩ := hO enc W base spare held _ x h0
    obtain ⟨y2, hy2, hok2⟩ := hF enc W base spare held cs xs hl (by simpa using hx) (fun i g hg => h (i + 1) g hg)
    refine ⟨(y, y2), ⟨_, cs.drop (off + d.sz), ?_, hy, hy2⟩, ?_⟩
    · rw [← List.drop_drop]; exact (List.take_append_drop _ _).symm
    · simp only [List.map_cons, Rows.uptoBulkAll]
      omega
theorem opensW_struct {fs : Array Field} {len : Nat} (hu : P.underlying t = some (.struct fs)) (hc : P.cellsOf t = len) (hF : ∀ m, m < n → OpensFW P m fs.toList 0 len d wt) : OpensW P n t d (fun y => 1 + wt y) := by
  intro H enc W base spare held cs x h
  obtain ⟨xs, n', hn, rfl, hl, hxl, hx⟩ := DataW.trod_struct hu h
  obtain ⟨y, hy, hok⟩ := hF n' (by omega) enc W base spare held cs xs (hl.trans hc) (by simpa using hxl) (fun i f hf => hx i f (by simpa using hf))
  refine ⟨y, by simpa using hy, ?_⟩
  simp only [Rows.uptoBulk]
  omega
theorem opensW_iso {γ : Type} {f : γ → α} (g : α → γ) (hg : ∀ a, f (g a) = a) (hO : OpensW P n t d wt) : OpensW P n t (Kd.iso d f) (fun y => wt (f y)) := by
  intro H enc W base spare held cs x h
  obtain ⟨y, hy, hok⟩ := hO enc W base spare held cs x h
  exact ⟨g y, by show d.K W (f (g y)) cs; rw [hg]; exact hy, by show wt (f (g y)) ≤ _; rw [hg]; exact hok⟩
variable {H : Type} {enc : TypeId × Value → H} {W : World} {base b0 : Nat} {spare : Nat → Bool} {held : Bool} {v : Value} {x : DataW H} {ps : List MemPlace} {r : Reach}
theorem arg_sliceW {γ : Nat → Type} {k : (n : Nat) → Kd (γ n)} {wtn : (n : Nat) → List (γ n) → Nat} (hu : P.underlying t = some (.slice e)) (hv : Value.okWide P W r b0 t v) (h : DataW.Trod enc P W base spare held t v x ps)
    (hO : ∀ n, OpensW P n t (Kd.slice e (k n)) (wtn n)) :
    ∃ n y A c, v = .slice A y.length c ∧ y.length ≤ c ∧ (k n).C W A y.length y ∧ wtn n y ≤ Rows.uptoBulk x := by
  obtain ⟨a0, len, cap, rfl⟩ := okWide_slice hu hv
  obtain ⟨fuel, hf⟩ := h
  obtain ⟨y, ⟨A, c, hc, hl, hr⟩, hok⟩ := hO fuel enc W base spare held _ _ hf
  simp [Value.cells] at hc
  obtain ⟨rfl, rfl, rfl⟩ := hc
  exact ⟨fuel, y, _, _, rfl, hl, hr, hok⟩
end
theorem sum_ones : ∀ l : List ByteArray, (l.map fun _ => 1).sum = l.length
  | [] => rfl
  | _ :: l => by simp only [List.map_cons, List.sum_cons, List.length_cons, sum_ones l]; omega
theorem opensW_test : ∀ (k n : Nat), n ≤ k → OpensW Tryd.prog n 107 (kTest k) (wtT k)
  | 0, n, hn => by
    intro enc W base spare held cs x h
    obtain ⟨xs, n', hn', _⟩ := DataW.trod_struct Tryd.underlying107 h
    omega
  | k + 1, n, hn => by
    refine OpensW.mono (opensW_iso (fun a => ⟨a.1, a.2.1, a.2.2.1, a.2.2.2.1, a.2.2.2.2.1, a.2.2.2.2.2.1, a.2.2.2.2.2.2.1, a.2.2.2.2.2.2.2⟩) (fun _ => rfl) (opensW_struct Tryd.underlying107 (len := 8) (by kernel_rfl) (fun m hm =>
      opensFW_cons rfl (by kernel_rfl) (opensW_int Tryd.underlying3) (opensFW_cons rfl (by kernel_rfl) (opensW_int Tryd.underlying3) (opensFW_cons rfl (by kernel_rfl) (opensW_int Tryd.underlying3)
        (opensFW_cons rfl (by kernel_rfl) (opensW_slice Tryd.underlying53 (by kernel_rfl) (fun _ _ => opensW_string Tryd.underlying9)) (opensFW_cons rfl (by kernel_rfl) (opensW_slice Tryd.underlying53 (by kernel_rfl) (fun _ _ => opensW_string Tryd.underlying9))
          (opensFW_cons rfl (by kernel_rfl) (opensW_bool Tryd.underlying4) (opensFW_cons rfl (by kernel_rfl) (opensW_int Tryd.underlying3)
            (opensFW_one rfl (by kernel_rfl) (opensW_slice Tryd.underlying105 (by rw [kTest_sz]; kernel_rfl) (fun m' hm' => opensW_test k m' (by omega))))))))))))) ?_
    intro (t : TestF (TestN k))
    simp only [wtT, sum_ones]
    omega
theorem opensW_cmd : ∀ (k n : Nat), n ≤ k → OpensW Tryd.prog n 109 (kCmd k) (wtC k)
  | 0, n, hn => by
    intro enc W base spare held cs x h
    obtain ⟨xs, n', hn', _⟩ := DataW.trod_struct Tryd.underlying109 h
    omega
  | k + 1, n, hn => by
    refine OpensW.mono (opensW_iso (fun a => ⟨a.1, a.2.1, a.2.2.1, a.2.2.2.1, a.2.2.2.2⟩) (fun _ => rfl) (opensW_struct Tryd.underlying109 (len := 12) (by kernel_rfl) (fun m hm =>
      opensFW_cons rfl (by kernel_rfl) (opensW_int Tryd.underlying3) (opensFW_cons rfl (by kernel_rfl) (opensW_slice Tryd.underlying53 (by kernel_rfl) (fun _ _ => opensW_string Tryd.underlying9))
        (opensFW_cons rfl (by kernel_rfl) (opensW_test (k + 1) m (by omega)) (opensFW_cons rfl (by kernel_rfl) (opensW_slice Tryd.underlying62 (by rw [kCmd_sz]; kernel_rfl) (fun m' hm' => opensW_cmd k m' (by omega)))
          (opensFW_one rfl (by kernel_rfl) (opensW_slice Tryd.underlying62 (by rw [kCmd_sz]; kernel_rfl) (fun m' hm' => opensW_cmd k m' (by omega)))))))))) ?_
    intro (c : CmdF (TestF (TestN k)) (CmdN k))
    simp only [wtC, sum_ones]
    omega
theorem opensW_cmds (n : Nat) : OpensW Tryd.prog n 62 (Kd.slice 109 (kCmd n)) (fun l => (l.map (wtC n)).sum) :=
  opensW_slice Tryd.underlying62 (by rw [kCmd_sz]; kernel_rfl) (fun m hm => opensW_cmd n m (by omega))
end Go.Proofs.YtijdghplfhfpaaaDoor.UB
