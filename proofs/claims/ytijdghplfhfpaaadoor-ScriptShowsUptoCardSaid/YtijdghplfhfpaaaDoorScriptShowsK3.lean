/- The claim ScriptShowsUptoCardSaid, part 3 of 8. -/
import Derived.Test.YtijdghplfhfpaaaDoorScriptShowsK2
import Derived.Test.YtijdghplfhfpaaaDoorScriptShowsK1
import Derived.Deep.QuietTactic
import Derived.BigQuiet
/- Scripts: the reference's strings shown. -/
namespace Go.Proofs.YtijdghplfhfpaaaDoor.H
open Go.RowKit Go.Proofs.YtijdghplfhfpaaaDoorW.PrintWords Go.Proofs.YtijdghplfhfpaaaDoorW.PrintLast Go.Proofs.YtijdghplfhfpaaaDoor.U
set_option linter.unusedVariables false
set_option linter.unusedSimpArgs false
def hdR : List ByteArray → List AToken
  | [] => [tk 5 (⟨#[91]⟩ : ByteArray)]
  | s :: l => headS (s :: l)
theorem hdR_first (x : ByteArray) : hdR ([] ++ [x]) = hdR [] ++ [tk 4 x] := rfl
theorem hdR_snoc {l : List ByteArray} (h : 0 < l.length) (x : ByteArray) : hdR (l ++ [x]) = (hdR l ++ [tk 5 (⟨#[44]⟩ : ByteArray)]) ++ [tk 4 x] := by
  cases l with
  | nil => simp at h
  | cons s l => exact head_snoc h x
theorem hdR_len (l : List ByteArray) : (hdR l).length ≤ 2 * l.length + 1 := by
  cases l with
  | nil => simp [hdR]
  | cons s l => have := head_len (s :: l); simp only [hdR]; omega
theorem strs_hdR {l : List ByteArray} (h : ¬ l.length = 1) : strsV l = hdR l ++ [tk 5 (⟨#[93]⟩ : ByteArray)] := by
  match l, h with
  | [], _ => rfl
  | [x], h => exact absurd rfl h
  | _ :: _ :: _, _ => rfl
theorem lit_tok (W : World) (x : AToken) : Kd.R kAToken 119 (W.alloc (.cells #[.int .i64 x.kind, .string x.text, .int .i64 x.number] 119)) W.heap.size (fun _ => True) (.slice (some ⟨W.heap.size, 0, none⟩) 1 1) [x] :=
  R_lit1 kAToken flat_kd 119 W x [.int .i64 x.kind, .string x.text, .int .i64 x.number] rfl
set_option maxHeartbeats 2000000 in
set_option maxRecDepth 100000 in
theorem strsShown_calls (A : Option Addr) (c : Nat) (l : List ByteArray) (w : World) (hr : Kd.C Kd.string w A l.length l) (hl : l.length ≤ 1048576) :
    Calls Tryd.prog 167 #[.slice A l.length c] w fun e w' => ∃ v, e = .returned v ∧ Kd.R kAToken 119 w' w.heap.size (fun _ => True) v (strsV l) ∧ Below w.heap.size w w' := by
  have h63 := hr.2.1
  have HK := Lib.hid (fun k s w => tok_calls k s w)
  by_cases h1 : l.length = 1
  · obtain ⟨s, rfl⟩ : ∃ s, l = [s] := by
      match l, h1 with
      | [s], _ => exact ⟨s, rfl⟩
    rw [strs_one]
    obtain ⟨ad, e1, q0⟩ := string_at hr 0 (by simp)
    have ez : ad.add 0 = ad := by simp [Addr.add]
    rw [ez] at q0
    subst e1
    clear hr ez
    simp only [List.getElem_cons_zero] at q0
    go_enter Tryd.func167, Tryd.ntmps167
    go_wp2_with fail
    refine (HK.out 4 s _).mono ?_
    rintro e w1 ⟨rfl, hb1⟩
    have hL := Lib.hid (lit_tok w1 (tk 4 s))
    have hz := hb1.size
    go_wp2_with fail
    go_ret
    exact ⟨_, rfl, Kd.R_lower hL.out hz, hb1.alloc hz _⟩
  · rw [strs_hdR h1]
    have hlb : ((l.length : Int) == 1) = false := by rw [beq_eq_false_iff_ne]; omega
    replace hr := Lib.hid hr
    clear h1
    go_enter Tryd.func167, Tryd.ntmps167
    go_wp2_with fail
    refine (HK.out 5 (⟨#[91]⟩ : ByteArray) _).mono ?_
    rintro e w1 ⟨rfl, hb1⟩
    have hL := Lib.hid (lit_tok w1 (tk 5 (⟨#[91]⟩ : ByteArray)))
    have hz1 := hb1.size
    have hB1 := hb1.alloc hz1 (.cells #[.int .i64 5, .string (⟨#[91]⟩ : ByteArray), .int .i64 0] 119)
    go_wp2_with fail
    go_loopw [3, 4] (fun v i wr => ∃ k : Nat, k ≤ l.length ∧ i = .int .i64 k ∧ Kd.R kAToken 119 wr w.heap.size (fun _ => True) v (hdR (l.take k)) ∧ Below w.heap.size w wr) (fun _ i _ => l.length - (intOf i).toNat)
    case atStart => exact ⟨0, Nat.zero_le _, rfl, Kd.R_lower hL.out hz1, hB1⟩
    case round =>
      clear hL hB1 hb1
      obtain ⟨k, hk, rfl, hR, hB⟩ := hrel
      have hzz := hB.size
      have hhl := hdR_len (l.take k)
      have hlk : (l.take k).length = k := by rw [List.length_take]; omega
      by_cases hlt : k < l.length
      · obtain ⟨ad, e1, q0⟩ := string_at (Kd.C_below hr.out hB) k hlt
        obtain ⟨_, e1', q0w⟩ := string_at hr.out k hlt
        rw [e1] at e1'
        cases e1'
        subst e1
        have hts := List.take_succ_eq_append_getElem hlt
        have hlim : (hdR (l.take k)).length ≤ 4194304 := by omega
        generalize l[k] = x at *
        replace q0w := Lib.hid q0w
        have i0 : (0 : Int) ≤ (k : Int) := by omega
        have i1 : (k : Int) < (l.length : Int) := by omega
        by_cases hk0 : k = 0
        · have hkb : ¬ (0 : Int) < (k : Int) := by omega
          have hts2 := Lib.hid (show hdR (l.take (k + 1)) = hdR (l.take k) ++ [tk 4 x] by rw [hts]; subst hk0; exact hdR_first x)
          clear hts hlk hhl
          generalize hdR (l.take k) = H at *
          clear hk0
          go_wp2_with fail
          refine (HK.out 4 x _).mono ?_
          rintro e w4 ⟨rfl, hb4⟩
          have hR4 := Kd.R_below hR hb4
          have hB4 : Below w.heap.size w w4 := hB.trans (hb4.mono hzz)
          have hz4 := hB4.size
          go_wp2_with (at_builtin; refine snoc_list rowAToken w.heap.size rfl _ _ rfl u3 H (tk 4 x) [.int .i64 4, .string x, .int .i64 0] (by first | rfl | (simp [Act.eval]; done)) (by first | rfl | (simp [Act.eval]; done)) rfl hR4 (by omega) (by omega) ?_)
          intro v5 w5 hR5 hb5 hg5
          have hB5 : Below w.heap.size w w5 := hB4.trans hb5
          go_wp2_with fail
          go_roundw
          case rel => exact ⟨k + 1, hlt, by go_num, by rw [hts2.out]; exact hR5, hB5⟩
          case measure => simp [intOf]; omega
        · have hkb : (0 : Int) < (k : Int) := by omega
          have hts2 := Lib.hid (show hdR (l.take (k + 1)) = (hdR (l.take k) ++ [tk 5 (⟨#[44]⟩ : ByteArray)]) ++ [tk 4 x] by rw [hts]; exact hdR_snoc (by omega) x)
          clear hts hlk hhl hk0
          generalize hdR (l.take k) = H at *
          go_wp2_with fail
          refine (HK.out 5 (⟨#[44]⟩ : ByteArray) _).mono ?_
          rintro e w2 ⟨rfl, hb2⟩
          have hR2 := Kd.R_below hR hb2
          have hB2 : Below w.heap.size w w2 := hB.trans (hb2.mono hzz)
          have hz2 := hB2.size
          clear q0
          go_wp2_with (at_builtin; refine snoc_list rowAToken w.heap.size rfl _ _ rfl u3 H (tk 5 (⟨#[44]⟩ : ByteArray)) [.int .i64 5, .string (⟨#[44]⟩ : ByteArray), .int .i64 0] (by first | rfl | (simp [Act.eval]; done)) (by first | rfl | (simp [Act.eval]; done)) rfl hR2 (by omega) (by omega) ?_)
          intro v3 w3 hR3 hb3 hg3
          have hB3 : Below w.heap.size w w3 := hB2.trans hb3
          have q0 := pw_cell_below hB3 q0w.out
          have hz3 := hB3.size
          go_wp2_with fail
          refine (HK.out 4 x _).mono ?_
          rintro e w4 ⟨rfl, hb4⟩
          have hR4 := Kd.R_below hR3 hb4
          have hB4 : Below w.heap.size w w4 := hB3.trans (hb4.mono hz3)
          have hz4 := hB4.size
          go_wp2_with (at_builtin; refine snoc_list rowAToken w.heap.size rfl _ _ rfl v3 (H ++ [tk 5 (⟨#[44]⟩ : ByteArray)]) (tk 4 x) [.int .i64 4, .string x, .int .i64 0] (by first | rfl | (simp [Act.eval]; done)) (by first | rfl | (simp [Act.eval]; done)) rfl hR4 (by omega) (by rw [List.length_append, List.length_singleton]; omega) ?_)
          intro v5 w5 hR5 hb5 hg5
          have hB5 : Below w.heap.size w w5 := hB4.trans hb5
          go_wp2_with fail
          go_roundw
          case rel => exact ⟨k + 1, hlt, by go_num, by rw [hts2.out, List.append_assoc]; exact hR5, hB5⟩
          case measure => simp [intOf]; omega
      · obtain rfl : k = l.length := by omega
        rw [List.take_length] at hR hhl
        have i1 : ¬ (l.length : Int) < (l.length : Int) := by omega
        go_wp2_with fail
        refine (HK.out 5 (⟨#[93]⟩ : ByteArray) _).mono ?_
        rintro e w2 ⟨rfl, hb2⟩
        have hR2 := Kd.R_below hR hb2
        have hB2 : Below w.heap.size w w2 := hB.trans (hb2.mono hzz)
        have hz2 := hB2.size
        go_wp2_with (at_builtin; refine snoc_list rowAToken w.heap.size rfl _ _ rfl u3 (hdR l) (tk 5 (⟨#[93]⟩ : ByteArray)) [.int .i64 5, .string (⟨#[93]⟩ : ByteArray), .int .i64 0] (by first | rfl | (simp [Act.eval]; done)) (by first | rfl | (simp [Act.eval]; done)) rfl hR2 (by omega) (by omega) ?_)
        intro v3 w3 hR3 hb3 hg3
        go_wp2_with fail
        go_ret
        exact ⟨_, rfl, hR3, hB2.trans hb3⟩
end Go.Proofs.YtijdghplfhfpaaaDoor.H

/- Scripts: the reference's test shown: the contract; plain kinds. -/
namespace Go.Proofs.YtijdghplfhfpaaaDoor.H
open Go.RowKit Go.Proofs.YtijdghplfhfpaaaDoorW.PrintWords Go.Proofs.YtijdghplfhfpaaaDoorW.PrintLast Go.Proofs.YtijdghplfhfpaaaDoor.U
set_option linter.unusedVariables false
set_option linter.unusedSimpArgs false
def StT (n : Nat) : Prop := ∀ (t : TestN n) (cs : List Value) (dp : Int) (w : World), (kTest n).K w t cs → checkT n t dp = 0 → wtT n t ≤ 1048576 →
  Calls Tryd.prog 168 #[.agg cs.toArray] w fun e w' => ∃ v, e = .returned v ∧ Kd.R kAToken 119 w' w.heap.size (fun _ => True) v (showT n t) ∧ Below w.heap.size w w'
set_option maxHeartbeats 1000000 in
set_option maxRecDepth 100000 in
theorem st_A (n : Nat) (A1 : Option Addr) (c1 : Nat) (A2 : Option Addr) (c2 : Nat) (A3 : Option Addr) (c3 : Nat) (kd mt pt : Int) (nm ks : List ByteArray) (ov : Bool) (lm : Int) (ts : List (TestN n)) (w : World) (k1 : 1 ≤ kd) (k2 : kd ≤ 2) (h1 : nm.length = 0) (h2 : ks.length = 0) (h3 : mt = 0) (h4 : pt = 0) (h5 : ts.length = 0) : Calls Tryd.prog 168 #[.agg #[.int .i64 kd, .int .i64 mt, .int .i64 pt, .slice A1 nm.length c1, .slice A2 ks.length c2, .bool ov, .int .i64 lm, .slice A3 ts.length c3]] w fun e w' => ∃ v, e = .returned v ∧ Kd.R kAToken 119 w' w.heap.size (fun _ => True) v [tk 1 (wordAt testWords kd)] ∧ Below w.heap.size w w' := by
  have b3 : (kd == 3) = false := by rw [beq_eq_false_iff_ne]; omega
  have b10 : (kd == 10) = false := by rw [beq_eq_false_iff_ne]; omega
  have j1 : ¬ (0 : Int) < (nm.length : Int) := by omega
  have j2 : ¬ (0 : Int) < (ks.length : Int) := by omega
  have j3 : ¬ (0 : Int) < mt := by omega
  have j4 : ¬ (0 : Int) < pt := by omega
  have j5 : ¬ (0 : Int) < (ts.length : Int) := by omega
  have j6 : ¬ 0 < nm.length := by omega
  have j7 : ¬ 0 < ks.length := by omega
  have j8 : ¬ 0 < ts.length := by omega
  clear h1 h2 h3 h4 h5
  have HK := Lib.hid (fun k s w => tok_calls k s w)
  have HW := Lib.hid (fun w => testWord_calls kd w (by omega) (by omega))
  have hP0 : BlkT (w.alloc (.cells #[.int .i64 kd, .int .i64 mt, .int .i64 pt, .slice A1 nm.length c1, .slice A2 ks.length c2, .bool ov, .int .i64 lm, .slice A3 ts.length c3] 107)) w.heap.size 107 [.int .i64 kd, .int .i64 mt, .int .i64 pt, .slice A1 nm.length c1, .slice A2 ks.length c2, .bool ov, .int .i64 lm, .slice A3 ts.length c3] := BlkT.made w _ _
  have hB0 : Below w.heap.size w (w.alloc (.cells #[.int .i64 kd, .int .i64 mt, .int .i64 pt, .slice A1 nm.length c1, .slice A2 ks.length c2, .bool ov, .int .i64 lm, .slice A3 ts.length c3] 107)) := (Below.refl _ _).alloc (Nat.le_refl _) _
  have p0 := (hP0.1).at 0 _ rfl
  have p1 := (hP0.1).at 1 _ rfl
  have p2 := (hP0.1).at 2 _ rfl
  have p3 := (hP0.1).at 3 _ rfl
  have p4 := (hP0.1).at 4 _ rfl
  have p5 := (hP0.1).at 5 _ rfl
  have p6 := (hP0.1).at 6 _ rfl
  have p7 := (hP0.1).at 7 _ rfl
  have pl := (hP0.1).lt
  generalize wordAt testWords kd = word at *
  go_enter Tryd.func168, Tryd.ntmps168
  go_wp2_with fail
  refine (HW.out _).mono ?_
  rintro e w1 ⟨rfl, hb1⟩
  have hP1 := hP0.below hb1 hP0.1.lt
  have hB1 := hB0.trans (hb1.mono hB0.size)
  clear p0 p1 p2 p3 p4 p5 p6 p7 pl hP0 hB0 hb1
  go_wp2_with fail
  refine (HK.out 1 word _).mono ?_
  rintro e w2 ⟨rfl, hb2⟩
  have hP := (hP1.below hb2 hP1.1.lt).alloc (.cells #[.int .i64 1, .string word, .int .i64 0] 119)
  have hB2 : Below w.heap.size w w2 := hB1.trans (hb2.mono hB1.size)
  have hR := Kd.R_lower (lit_tok w2 (tk 1 word)) hB2.size
  have hB := hB2.alloc hB2.size (.cells #[.int .i64 1, .string word, .int .i64 0] 119)
  clear hP1 hB1 hb2 hB2
  have p0 := (hP.1).at 0 _ rfl
  have p1 := (hP.1).at 1 _ rfl
  have p2 := (hP.1).at 2 _ rfl
  have p3 := (hP.1).at 3 _ rfl
  have p4 := (hP.1).at 4 _ rfl
  have p5 := (hP.1).at 5 _ rfl
  have p6 := (hP.1).at 6 _ rfl
  have p7 := (hP.1).at 7 _ rfl
  have pl := (hP.1).lt
  go_wp2_with fail
  go_ret
  exact ⟨_, rfl, hR, hB⟩
set_option maxHeartbeats 1000000 in
set_option maxRecDepth 100000 in
theorem st_H (n : Nat) (A1 : Option Addr) (c1 : Nat) (A2 : Option Addr) (c2 : Nat) (A3 : Option Addr) (c3 : Nat) (kd mt pt : Int) (nm ks : List ByteArray) (ov : Bool) (lm : Int) (ts : List (TestN n)) (w : World) (k1 : 6 ≤ kd) (k2 : kd ≤ 6) (m1 : 1 ≤ mt) (m2 : mt ≤ 3) (h4 : pt = 0) (h5 : ts.length = 0) (hn : 0 < nm.length) (hk : 0 < ks.length) (r1 : Kd.C Kd.string w A1 nm.length nm) (r2 : Kd.C Kd.string w A2 ks.length ks) (hlim : nm.length + ks.length ≤ 1048576) :
    Calls Tryd.prog 168 #[.agg #[.int .i64 kd, .int .i64 mt, .int .i64 pt, .slice A1 nm.length c1, .slice A2 ks.length c2, .bool ov, .int .i64 lm, .slice A3 ts.length c3]] w fun e w' => ∃ v, e = .returned v ∧ Kd.R kAToken 119 w' w.heap.size (fun _ => True) v (tk 1 (wordAt testWords kd) :: tk 2 (wordAt matchWords mt) :: (strsV nm ++ strsV ks)) ∧ Below w.heap.size w w' := by
  have b3 : (kd == 3) = false := by rw [beq_eq_false_iff_ne]; omega
  have b10 : (kd == 10) = false := by rw [beq_eq_false_iff_ne]; omega
  have j1 : (0 : Int) < (nm.length : Int) := by omega
  have j2 : (0 : Int) < (ks.length : Int) := by omega
  have j3 : (0 : Int) < mt := by omega
  have j4 : ¬ (0 : Int) < pt := by omega
  have j5 : ¬ (0 : Int) < (ts.length : Int) := by omega
  have j8 : ¬ 0 < ts.length := by omega
  have HM := Lib.hid (fun w => matchWord_calls mt w (by omega) (by omega))
  have hlens := Lib.hid (And.intro (strs_len2 nm) (strs_len2 ks))
  replace hlim := Lib.hid hlim
  replace r1 := Lib.hid r1
  replace r2 := Lib.hid r2
  clear h4 h5 m1 m2
  generalize wordAt matchWords mt = mword at *
  have HK := Lib.hid (fun k s w => tok_calls k s w)
  have HW := Lib.hid (fun w => testWord_calls kd w (by omega) (by omega))
  have hP0 : BlkT (w.alloc (.cells #[.int .i64 kd, .int .i64 mt, .int .i64 pt, .slice A1 nm.length c1, .slice A2 ks.length c2, .bool ov, .int .i64 lm, .slice A3 ts.length c3] 107)) w.heap.size 107 [.int .i64 kd, .int .i64 mt, .int .i64 pt, .slice A1 nm.length c1, .slice A2 ks.length c2, .bool ov, .int .i64 lm, .slice A3 ts.length c3] := BlkT.made w _ _
  have hB0 : Below w.heap.size w (w.alloc (.cells #[.int .i64 kd, .int .i64 mt, .int .i64 pt, .slice A1 nm.length c1, .slice A2 ks.length c2, .bool ov, .int .i64 lm, .slice A3 ts.length c3] 107)) := (Below.refl _ _).alloc (Nat.le_refl _) _
  have p0 := (hP0.1).at 0 _ rfl
  have p1 := (hP0.1).at 1 _ rfl
  have p2 := (hP0.1).at 2 _ rfl
  have p3 := (hP0.1).at 3 _ rfl
  have p4 := (hP0.1).at 4 _ rfl
  have p5 := (hP0.1).at 5 _ rfl
  have p6 := (hP0.1).at 6 _ rfl
  have p7 := (hP0.1).at 7 _ rfl
  have pl := (hP0.1).lt
  generalize wordAt testWords kd = word at *
  go_enter Tryd.func168, Tryd.ntmps168
  go_wp2_with fail
  refine (HW.out _).mono ?_
  rintro e w1 ⟨rfl, hb1⟩
  have hP1 := hP0.below hb1 hP0.1.lt
  have hB1 := hB0.trans (hb1.mono hB0.size)
  clear p0 p1 p2 p3 p4 p5 p6 p7 pl hP0 hB0 hb1
  go_wp2_with fail
  refine (HK.out 1 word _).mono ?_
  rintro e w2 ⟨rfl, hb2⟩
  have hP := (hP1.below hb2 hP1.1.lt).alloc (.cells #[.int .i64 1, .string word, .int .i64 0] 119)
  have hB2 : Below w.heap.size w w2 := hB1.trans (hb2.mono hB1.size)
  have hR := Kd.R_lower (lit_tok w2 (tk 1 word)) hB2.size
  have hB := hB2.alloc hB2.size (.cells #[.int .i64 1, .string word, .int .i64 0] 119)
  clear hP1 hB1 hb2 hB2
  have p0 := (hP.1).at 0 _ rfl
  have p1 := (hP.1).at 1 _ rfl
  have p2 := (hP.1).at 2 _ rfl
  have p3 := (hP.1).at 3 _ rfl
  have p4 := (hP.1).at 4 _ rfl
  have p5 := (hP.1).at 5 _ rfl
  have p6 := (hP.1).at 6 _ rfl
  have p7 := (hP.1).at 7 _ rfl
  have pl := (hP.1).lt
  go_wp2_with fail
  refine (HM.out _).mono ?_
  rintro e wa ⟨rfl, hba⟩
  replace hP := hP.below hba hP.1.lt
  replace hR := Kd.R_below hR hba
  replace hB := hB.trans (hba.mono hB.size)
  clear p0 p1 p2 p3 p4 p5 p6 p7 pl
  clear hba
  go_wp2_with fail
  refine (HK.out 2 mword _).mono ?_
  rintro e wb ⟨rfl, hbb⟩
  replace hP := hP.below hbb hP.1.lt
  replace hR := Kd.R_below hR hbb
  replace hB := hB.trans (hbb.mono hB.size)
  clear hbb
  have hzB := hB.size
  go_wp2_with (at_builtin; refine snoc_list rowAToken w.heap.size rfl _ _ rfl (.slice (some ⟨w2.heap.size, 0, none⟩) 1 1) [tk 1 word] (tk 2 mword) [.int .i64 2, .string mword, .int .i64 0] (by first | rfl | (simp [Act.eval]; done)) (by first | rfl | (simp [Act.eval]; done)) rfl hR (by omega) (by simp) ?_)
  intro v1 wc hRn hbn hgn
  replace hP := hP.row hR hgn (by decide)
  replace hR := hRn
  replace hB := hB.trans hbn
  clear hRn hbn hgn hzB
  have p0 := (hP.1).at 0 _ rfl
  have p1 := (hP.1).at 1 _ rfl
  have p2 := (hP.1).at 2 _ rfl
  have p3 := (hP.1).at 3 _ rfl
  have p4 := (hP.1).at 4 _ rfl
  have p5 := (hP.1).at 5 _ rfl
  have p6 := (hP.1).at 6 _ rfl
  have p7 := (hP.1).at 7 _ rfl
  have pl := (hP.1).lt
  go_wp2_with fail
  refine (strsShown_calls A1 c1 nm _ (Kd.C_below r1.out hB) (by have := hlim.out; omega)).mono ?_
  rintro e wd ⟨vL, rfl, hRL, hba⟩
  obtain ⟨AL, cL, rfl, hcL, hCL⟩ := C_of hRL
  replace hP := hP.below hba hP.1.lt
  replace hR := Kd.R_below hR hba
  replace hB := hB.trans (hba.mono hB.size)
  clear p0 p1 p2 p3 p4 p5 p6 p7 pl
  clear hba hRL
  have hzB := hB.size
  have hlL := strs_len2 nm
  go_wp2_with (at_builtin; refine rows_list rowAToken w.heap.size rfl _ _ rfl v1 ([tk 1 word] ++ [tk 2 mword]) (strsV nm) AL cL (by first | rfl | (simp [Act.eval]; done)) (by first | rfl | (simp [Act.eval]; done)) hR hCL (by omega) (by have := hlim.out; have := hlens.out; simp only [List.length_append, List.length_cons, List.length_nil]; omega) ?_)
  intro v2 we hRn hbn hgn
  replace hP := hP.row hR hgn (by decide)
  replace hR := hRn
  replace hB := hB.trans hbn
  clear hRn hbn hgn hzB hlL hCL hcL
  have p0 := (hP.1).at 0 _ rfl
  have p1 := (hP.1).at 1 _ rfl
  have p2 := (hP.1).at 2 _ rfl
  have p3 := (hP.1).at 3 _ rfl
  have p4 := (hP.1).at 4 _ rfl
  have p5 := (hP.1).at 5 _ rfl
  have p6 := (hP.1).at 6 _ rfl
  have p7 := (hP.1).at 7 _ rfl
  have pl := (hP.1).lt
  go_wp2_with fail
  refine (strsShown_calls A2 c2 ks _ (Kd.C_below r2.out hB) (by have := hlim.out; omega)).mono ?_
  rintro e wf ⟨vL, rfl, hRL, hba⟩
  obtain ⟨AL, cL, rfl, hcL, hCL⟩ := C_of hRL
  replace hP := hP.below hba hP.1.lt
  replace hR := Kd.R_below hR hba
  replace hB := hB.trans (hba.mono hB.size)
  clear p0 p1 p2 p3 p4 p5 p6 p7 pl
  clear hba hRL
  have hzB := hB.size
  have hlL := strs_len2 ks
  go_wp2_with (at_builtin; refine rows_list rowAToken w.heap.size rfl _ _ rfl v2 (([tk 1 word] ++ [tk 2 mword]) ++ strsV nm) (strsV ks) AL cL (by first | rfl | (simp [Act.eval]; done)) (by first | rfl | (simp [Act.eval]; done)) hR hCL (by omega) (by have := hlim.out; have := hlens.out; simp only [List.length_append, List.length_cons, List.length_nil]; omega) ?_)
  intro v3 wg hRn hbn hgn
  replace hP := hP.row hR hgn (by decide)
  replace hR := hRn
  replace hB := hB.trans hbn
  clear hRn hbn hgn hzB hlL hCL hcL
  have p0 := (hP.1).at 0 _ rfl
  have p1 := (hP.1).at 1 _ rfl
  have p2 := (hP.1).at 2 _ rfl
  have p3 := (hP.1).at 3 _ rfl
  have p4 := (hP.1).at 4 _ rfl
  have p5 := (hP.1).at 5 _ rfl
  have p6 := (hP.1).at 6 _ rfl
  have p7 := (hP.1).at 7 _ rfl
  have pl := (hP.1).lt
  go_wp2_with fail
  go_ret
  exact ⟨_, rfl, by simpa using hR, hB⟩
set_option maxHeartbeats 1000000 in
set_option maxRecDepth 100000 in
theorem st_D (n : Nat) (A1 : Option Addr) (c1 : Nat) (A2 : Option Addr) (c2 : Nat) (A3 : Option Addr) (c3 : Nat) (kd mt pt : Int) (nm ks : List ByteArray) (ov : Bool) (lm : Int) (ts : List (TestN n)) (w : World) (k1 : 7 ≤ kd) (k2 : kd ≤ 8) (m1 : 1 ≤ mt) (m2 : mt ≤ 3) (q1 : 1 ≤ pt) (q2 : pt ≤ 3) (h5 : ts.length = 0) (hn : 0 < nm.length) (hk : 0 < ks.length) (r1 : Kd.C Kd.string w A1 nm.length nm) (r2 : Kd.C Kd.string w A2 ks.length ks) (hlim : nm.length + ks.length ≤ 1048576) :
    Calls Tryd.prog 168 #[.agg #[.int .i64 kd, .int .i64 mt, .int .i64 pt, .slice A1 nm.length c1, .slice A2 ks.length c2, .bool ov, .int .i64 lm, .slice A3 ts.length c3]] w fun e w' => ∃ v, e = .returned v ∧ Kd.R kAToken 119 w' w.heap.size (fun _ => True) v (tk 1 (wordAt testWords kd) :: tk 2 (wordAt partWords pt) :: tk 2 (wordAt matchWords mt) :: (strsV nm ++ strsV ks)) ∧ Below w.heap.size w w' := by
  have b3 : (kd == 3) = false := by rw [beq_eq_false_iff_ne]; omega
  have b10 : (kd == 10) = false := by rw [beq_eq_false_iff_ne]; omega
  have j1 : (0 : Int) < (nm.length : Int) := by omega
  have j2 : (0 : Int) < (ks.length : Int) := by omega
  have j3 : (0 : Int) < mt := by omega
  have j4 : (0 : Int) < pt := by omega
  have j5 : ¬ (0 : Int) < (ts.length : Int) := by omega
  have j8 : ¬ 0 < ts.length := by omega
  have HM := Lib.hid (fun w => matchWord_calls mt w (by omega) (by omega))
  have hlens := Lib.hid (And.intro (strs_len2 nm) (strs_len2 ks))
  replace hlim := Lib.hid hlim
  replace r1 := Lib.hid r1
  replace r2 := Lib.hid r2
  have HQ := Lib.hid (fun w => partWord_calls pt w (by omega) (by omega))
  clear h5 m1 m2 q1 q2
  generalize wordAt matchWords mt = mword at *
  generalize wordAt partWords pt = pword at *
  have HK := Lib.hid (fun k s w => tok_calls k s w)
  have HW := Lib.hid (fun w => testWord_calls kd w (by omega) (by omega))
  have hP0 : BlkT (w.alloc (.cells #[.int .i64 kd, .int .i64 mt, .int .i64 pt, .slice A1 nm.length c1, .slice A2 ks.length c2, .bool ov, .int .i64 lm, .slice A3 ts.length c3] 107)) w.heap.size 107 [.int .i64 kd, .int .i64 mt, .int .i64 pt, .slice A1 nm.length c1, .slice A2 ks.length c2, .bool ov, .int .i64 lm, .slice A3 ts.length c3] := BlkT.made w _ _
  have hB0 : Below w.heap.size w (w.alloc (.cells #[.int .i64 kd, .int .i64 mt, .int .i64 pt, .slice A1 nm.length c1, .slice A2 ks.length c2, .bool ov, .int .i64 lm, .slice A3 ts.length c3] 107)) := (Below.refl _ _).alloc (Nat.le_refl _) _
  have p0 := (hP0.1).at 0 _ rfl
  have p1 := (hP0.1).at 1 _ rfl
  have p2 := (hP0.1).at 2 _ rfl
  have p3 := (hP0.1).at 3 _ rfl
  have p4 := (hP0.1).at 4 _ rfl
  have p5 := (hP0.1).at 5 _ rfl
  have p6 := (hP0.1).at 6 _ rfl
  have p7 := (hP0.1).at 7 _ rfl
  have pl := (hP0.1).lt
  generalize wordAt testWords kd = word at *
  go_enter Tryd.func168, Tryd.ntmps168
  go_wp2_with fail
  refine (HW.out _).mono ?_
  rintro e w1 ⟨rfl, hb1⟩
  have hP1 := hP0.below hb1 hP0.1.lt
  have hB1 := hB0.trans (hb1.mono hB0.size)
  clear p0 p1 p2 p3 p4 p5 p6 p7 pl hP0 hB0 hb1
  go_wp2_with fail
  refine (HK.out 1 word _).mono ?_
  rintro e w2 ⟨rfl, hb2⟩
  have hP := (hP1.below hb2 hP1.1.lt).alloc (.cells #[.int .i64 1, .string word, .int .i64 0] 119)
  have hB2 : Below w.heap.size w w2 := hB1.trans (hb2.mono hB1.size)
  have hR := Kd.R_lower (lit_tok w2 (tk 1 word)) hB2.size
  have hB := hB2.alloc hB2.size (.cells #[.int .i64 1, .string word, .int .i64 0] 119)
  clear hP1 hB1 hb2 hB2
  have p0 := (hP.1).at 0 _ rfl
  have p1 := (hP.1).at 1 _ rfl
  have p2 := (hP.1).at 2 _ rfl
  have p3 := (hP.1).at 3 _ rfl
  have p4 := (hP.1).at 4 _ rfl
  have p5 := (hP.1).at 5 _ rfl
  have p6 := (hP.1).at 6 _ rfl
  have p7 := (hP.1).at 7 _ rfl
  have pl := (hP.1).lt
  go_wp2_with fail
  refine (HQ.out _).mono ?_
  rintro e wx ⟨rfl, hba⟩
  replace hP := hP.below hba hP.1.lt
  replace hR := Kd.R_below hR hba
  replace hB := hB.trans (hba.mono hB.size)
  clear p0 p1 p2 p3 p4 p5 p6 p7 pl
  clear hba
  go_wp2_with fail
  refine (HK.out 2 pword _).mono ?_
  rintro e wy ⟨rfl, hbb⟩
  replace hP := hP.below hbb hP.1.lt
  replace hR := Kd.R_below hR hbb
  replace hB := hB.trans (hbb.mono hB.size)
  clear hbb
  have hzB := hB.size
  go_wp2_with (at_builtin; refine snoc_list rowAToken w.heap.size rfl _ _ rfl (.slice (some ⟨w2.heap.size, 0, none⟩) 1 1) [tk 1 word] (tk 2 pword) [.int .i64 2, .string pword, .int .i64 0] (by first | rfl | (simp [Act.eval]; done)) (by first | rfl | (simp [Act.eval]; done)) rfl hR (by omega) (by simp) ?_)
  intro v0 wz hRn hbn hgn
  replace hP := hP.row hR hgn (by decide)
  replace hR := hRn
  replace hB := hB.trans hbn
  clear hRn hbn hgn hzB
  have p0 := (hP.1).at 0 _ rfl
  have p1 := (hP.1).at 1 _ rfl
  have p2 := (hP.1).at 2 _ rfl
  have p3 := (hP.1).at 3 _ rfl
  have p4 := (hP.1).at 4 _ rfl
  have p5 := (hP.1).at 5 _ rfl
  have p6 := (hP.1).at 6 _ rfl
  have p7 := (hP.1).at 7 _ rfl
  have pl := (hP.1).lt
  go_wp2_with fail
  refine (HM.out _).mono ?_
  rintro e wa ⟨rfl, hba⟩
  replace hP := hP.below hba hP.1.lt
  replace hR := Kd.R_below hR hba
  replace hB := hB.trans (hba.mono hB.size)
  clear p0 p1 p2 p3 p4 p5 p6 p7 pl
  clear hba
  go_wp2_with fail
  refine (HK.out 2 mword _).mono ?_
  rintro e wb ⟨rfl, hbb⟩
  replace hP := hP.below hbb hP.1.lt
  replace hR := Kd.R_below hR hbb
  replace hB := hB.trans (hbb.mono hB.size)
  clear hbb
  have hzB := hB.size
  go_wp2_with (at_builtin; refine snoc_list rowAToken w.heap.size rfl _ _ rfl v0 ([tk 1 word] ++ [tk 2 pword]) (tk 2 mword) [.int .i64 2, .string mword, .int .i64 0] (by first | rfl | (simp [Act.eval]; done)) (by first | rfl | (simp [Act.eval]; done)) rfl hR (by omega) (by simp) ?_)
  intro v1 wc hRn hbn hgn
  replace hP := hP.row hR hgn (by decide)
  replace hR := hRn
  replace hB := hB.trans hbn
  clear hRn hbn hgn hzB
  have p0 := (hP.1).at 0 _ rfl
  have p1 := (hP.1).at 1 _ rfl
  have p2 := (hP.1).at 2 _ rfl
  have p3 := (hP.1).at 3 _ rfl
  have p4 := (hP.1).at 4 _ rfl
  have p5 := (hP.1).at 5 _ rfl
  have p6 := (hP.1).at 6 _ rfl
  have p7 := (hP.1).at 7 _ rfl
  have pl := (hP.1).lt
  go_wp2_with fail
  refine (strsShown_calls A1 c1 nm _ (Kd.C_below r1.out hB) (by have := hlim.out; omega)).mono ?_
  rintro e wd ⟨vL, rfl, hRL, hba⟩
  obtain ⟨AL, cL, rfl, hcL, hCL⟩ := C_of hRL
  replace hP := hP.below hba hP.1.lt
  replace hR := Kd.R_below hR hba
  replace hB := hB.trans (hba.mono hB.size)
  clear p0 p1 p2 p3 p4 p5 p6 p7 pl
  clear hba hRL
  have hzB := hB.size
  have hlL := strs_len2 nm
  go_wp2_with (at_builtin; refine rows_list rowAToken w.heap.size rfl _ _ rfl v1 (([tk 1 word] ++ [tk 2 pword]) ++ [tk 2 mword]) (strsV nm) AL cL (by first | rfl | (simp [Act.eval]; done)) (by first | rfl | (simp [Act.eval]; done)) hR hCL (by omega) (by have := hlim.out; have := hlens.out; simp only [List.length_append, List.length_cons, List.length_nil]; omega) ?_)
  intro v2 we hRn hbn hgn
  replace hP := hP.row hR hgn (by decide)
  replace hR := hRn
  replace hB := hB.trans hbn
  clear hRn hbn hgn hzB hlL hCL hcL
  have p0 := (hP.1).at 0 _ rfl
  have p1 := (hP.1).at 1 _ rfl
  have p2 := (hP.1).at 2 _ rfl
  have p3 := (hP.1).at 3 _ rfl
  have p4 := (hP.1).at 4 _ rfl
  have p5 := (hP.1).at 5 _ rfl
  have p6 := (hP.1).at 6 _ rfl
  have p7 := (hP.1).at 7 _ rfl
  have pl := (hP.1).lt
  go_wp2_with fail
  refine (strsShown_calls A2 c2 ks _ (Kd.C_below r2.out hB) (by have := hlim.out; omega)).mono ?_
  rintro e wf ⟨vL, rfl, hRL, hba⟩
  obtain ⟨AL, cL, rfl, hcL, hCL⟩ := C_of hRL
  replace hP := hP.below hba hP.1.lt
  replace hR := Kd.R_below hR hba
  replace hB := hB.trans (hba.mono hB.size)
  clear p0 p1 p2 p3 p4 p5 p6 p7 pl
  clear hba hRL
  have hzB := hB.size
  have hlL := strs_len2 ks
  go_wp2_with (at_builtin; refine rows_list rowAToken w.heap.size rfl _ _ rfl v2 ((([tk 1 word] ++ [tk 2 pword]) ++ [tk 2 mword]) ++ strsV nm) (strsV ks) AL cL (by first | rfl | (simp [Act.eval]; done)) (by first | rfl | (simp [Act.eval]; done)) hR hCL (by omega) (by have := hlim.out; have := hlens.out; simp only [List.length_append, List.length_cons, List.length_nil]; omega) ?_)
  intro v3 wg hRn hbn hgn
  replace hP := hP.row hR hgn (by decide)
  replace hR := hRn
  replace hB := hB.trans hbn
  clear hRn hbn hgn hzB hlL hCL hcL
  have p0 := (hP.1).at 0 _ rfl
  have p1 := (hP.1).at 1 _ rfl
  have p2 := (hP.1).at 2 _ rfl
  have p3 := (hP.1).at 3 _ rfl
  have p4 := (hP.1).at 4 _ rfl
  have p5 := (hP.1).at 5 _ rfl
  have p6 := (hP.1).at 6 _ rfl
  have p7 := (hP.1).at 7 _ rfl
  have pl := (hP.1).lt
  go_wp2_with fail
  go_ret
  exact ⟨_, rfl, by simpa using hR, hB⟩
set_option maxHeartbeats 1000000 in
set_option maxRecDepth 100000 in
theorem st_E (n : Nat) (A1 : Option Addr) (c1 : Nat) (A2 : Option Addr) (c2 : Nat) (A3 : Option Addr) (c3 : Nat) (kd mt pt : Int) (nm ks : List ByteArray) (ov : Bool) (lm : Int) (ts : List (TestN n)) (w : World) (k1 : 9 ≤ kd) (k2 : kd ≤ 9) (m1 : mt = 0) (h4 : pt = 0) (h5 : ts.length = 0) (hn : 0 < nm.length) (hk : ks.length = 0) (r1 : Kd.C Kd.string w A1 nm.length nm) (hlim : nm.length + ks.length ≤ 1048576) :
    Calls Tryd.prog 168 #[.agg #[.int .i64 kd, .int .i64 mt, .int .i64 pt, .slice A1 nm.length c1, .slice A2 ks.length c2, .bool ov, .int .i64 lm, .slice A3 ts.length c3]] w fun e w' => ∃ v, e = .returned v ∧ Kd.R kAToken 119 w' w.heap.size (fun _ => True) v (tk 1 (wordAt testWords kd) :: strsV nm) ∧ Below w.heap.size w w' := by
  have b3 : (kd == 3) = false := by rw [beq_eq_false_iff_ne]; omega
  have b10 : (kd == 10) = false := by rw [beq_eq_false_iff_ne]; omega
  have j1 : (0 : Int) < (nm.length : Int) := by omega
  have j2 : ¬ (0 : Int) < (ks.length : Int) := by omega
  have j2n : ¬ 0 < ks.length := by omega
  have j3 : ¬ (0 : Int) < mt := by omega
  have j4 : ¬ (0 : Int) < pt := by omega
  have j5 : ¬ (0 : Int) < (ts.length : Int) := by omega
  have j8 : ¬ 0 < ts.length := by omega
  have hlens := Lib.hid (And.intro (strs_len2 nm) (strs_len2 ks))
  replace hlim := Lib.hid hlim
  replace r1 := Lib.hid r1
  clear h4 h5 m1 hk
  have HK := Lib.hid (fun k s w => tok_calls k s w)
  have HW := Lib.hid (fun w => testWord_calls kd w (by omega) (by omega))
  have hP0 : BlkT (w.alloc (.cells #[.int .i64 kd, .int .i64 mt, .int .i64 pt, .slice A1 nm.length c1, .slice A2 ks.length c2, .bool ov, .int .i64 lm, .slice A3 ts.length c3] 107)) w.heap.size 107 [.int .i64 kd, .int .i64 mt, .int .i64 pt, .slice A1 nm.length c1, .slice A2 ks.length c2, .bool ov, .int .i64 lm, .slice A3 ts.length c3] := BlkT.made w _ _
  have hB0 : Below w.heap.size w (w.alloc (.cells #[.int .i64 kd, .int .i64 mt, .int .i64 pt, .slice A1 nm.length c1, .slice A2 ks.length c2, .bool ov, .int .i64 lm, .slice A3 ts.length c3] 107)) := (Below.refl _ _).alloc (Nat.le_refl _) _
  have p0 := (hP0.1).at 0 _ rfl
  have p1 := (hP0.1).at 1 _ rfl
  have p2 := (hP0.1).at 2 _ rfl
  have p3 := (hP0.1).at 3 _ rfl
  have p4 := (hP0.1).at 4 _ rfl
  have p5 := (hP0.1).at 5 _ rfl
  have p6 := (hP0.1).at 6 _ rfl
  have p7 := (hP0.1).at 7 _ rfl
  have pl := (hP0.1).lt
  generalize wordAt testWords kd = word at *
  go_enter Tryd.func168, Tryd.ntmps168
  go_wp2_with fail
  refine (HW.out _).mono ?_
  rintro e w1 ⟨rfl, hb1⟩
  have hP1 := hP0.below hb1 hP0.1.lt
  have hB1 := hB0.trans (hb1.mono hB0.size)
  clear p0 p1 p2 p3 p4 p5 p6 p7 pl hP0 hB0 hb1
  go_wp2_with fail
  refine (HK.out 1 word _).mono ?_
  rintro e w2 ⟨rfl, hb2⟩
  have hP := (hP1.below hb2 hP1.1.lt).alloc (.cells #[.int .i64 1, .string word, .int .i64 0] 119)
  have hB2 : Below w.heap.size w w2 := hB1.trans (hb2.mono hB1.size)
  have hR := Kd.R_lower (lit_tok w2 (tk 1 word)) hB2.size
  have hB := hB2.alloc hB2.size (.cells #[.int .i64 1, .string word, .int .i64 0] 119)
  clear hP1 hB1 hb2 hB2
  have p0 := (hP.1).at 0 _ rfl
  have p1 := (hP.1).at 1 _ rfl
  have p2 := (hP.1).at 2 _ rfl
  have p3 := (hP.1).at 3 _ rfl
  have p4 := (hP.1).at 4 _ rfl
  have p5 := (hP.1).at 5 _ rfl
  have p6 := (hP.1).at 6 _ rfl
  have p7 := (hP.1).at 7 _ rfl
  have pl := (hP.1).lt
  go_wp2_with fail
  refine (strsShown_calls A1 c1 nm _ (Kd.C_below r1.out hB) (by have := hlim.out; omega)).mono ?_
  rintro e wd ⟨vL, rfl, hRL, hba⟩
  obtain ⟨AL, cL, rfl, hcL, hCL⟩ := C_of hRL
  replace hP := hP.below hba hP.1.lt
  replace hR := Kd.R_below hR hba
  replace hB := hB.trans (hba.mono hB.size)
  clear p0 p1 p2 p3 p4 p5 p6 p7 pl
  clear hba hRL
  have hzB := hB.size
  have hlL := strs_len2 nm
  go_wp2_with (at_builtin; refine rows_list rowAToken w.heap.size rfl _ _ rfl (.slice (some ⟨w2.heap.size, 0, none⟩) 1 1) [tk 1 word] (strsV nm) AL cL (by first | rfl | (simp [Act.eval]; done)) (by first | rfl | (simp [Act.eval]; done)) hR hCL (by omega) (by have := hlim.out; have := hlens.out; simp only [List.length_append, List.length_cons, List.length_nil]; omega) ?_)
  intro v2 we hRn hbn hgn
  replace hP := hP.row hR hgn (by decide)
  replace hR := hRn
  replace hB := hB.trans hbn
  clear hRn hbn hgn hzB hlL hCL hcL
  have p0 := (hP.1).at 0 _ rfl
  have p1 := (hP.1).at 1 _ rfl
  have p2 := (hP.1).at 2 _ rfl
  have p3 := (hP.1).at 3 _ rfl
  have p4 := (hP.1).at 4 _ rfl
  have p5 := (hP.1).at 5 _ rfl
  have p6 := (hP.1).at 6 _ rfl
  have p7 := (hP.1).at 7 _ rfl
  have pl := (hP.1).lt
  go_wp2_with fail
  go_ret
  exact ⟨_, rfl, by simpa using hR, hB⟩
end Go.Proofs.YtijdghplfhfpaaaDoor.H

/- Scripts: the writer's test: the contract. -/
namespace Go.Proofs.YtijdghplfhfpaaaDoor.H
open Go.RowKit Go.Proofs.YtijdghplfhfpaaaDoorW.PrintWords Go.Proofs.YtijdghplfhfpaaaDoorW.PrintLast Go.Proofs.YtijdghplfhfpaaaDoor.U
set_option linter.unusedVariables false
set_option linter.unusedSimpArgs false
/-- The tables of words. -/
def Tabs (w : World) (b : Nat) : Prop := Und Kd.string w b (some ⟨2, 0, none⟩) testWords ∧ Und Kd.string w b (some ⟨3, 0, none⟩) partWords ∧ Und Kd.string w b (some ⟨4, 0, none⟩) matchWords ∧ Und Kd.string w b (some ⟨1, 0, none⟩) commandWords
theorem Tabs.step {w w1 : World} {b : Nat} (h : Tabs w b) (hb : Below b w w1) : Tabs w1 b := ⟨h.1.step hb, h.2.1.step hb, h.2.2.1.step hb, h.2.2.2.step hb⟩
theorem word_at {w : World} {b g : Nat} {l : List ByteArray} (h : Und Kd.string w b (some ⟨g, 0, none⟩) l) (k : Nat) (hk : k < l.length) : w.cell? ⟨g, k, none⟩ = some (.string (wordAt l k)) := by
  obtain ⟨ad, e, hc⟩ := string_at h.now k hk
  cases e
  rw [show (⟨g, 0, none⟩ : Addr).add k = ⟨g, k, none⟩ from by rw [Go.WideShapes.add_plain, Nat.zero_add]] at hc
  rw [hc, wordAt, Int.toNat_natCast, List.getD_eq_getElem?_getD, List.getElem?_eq_getElem hk]
  rfl
def WtT (n : Nat) : Prop := ∀ (t : TestN n) (cs : List Value) (dp : Int) (b : Nat) (l0 : List AToken) (w : World), UndK (kTest n) w b t cs → checkT n t dp = 0 → Tabs w b → WrAt w b l0 → l0.length + 8 * wtT n t ≤ 1073741824 →
  Calls Tryd.prog 161 #[.pointer (some ⟨b, 0, none⟩), .agg cs.toArray] w fun e w' => e = .returned (.tuple #[]) ∧ WrAt w' b (l0 ++ showT n t) ∧ Wrote b w w'
set_option maxHeartbeats 1000000 in
set_option maxRecDepth 100000 in
theorem wt_A (n : Nat) (A1 : Option Addr) (c1 : Nat) (A2 : Option Addr) (c2 : Nat) (A3 : Option Addr) (c3 : Nat) (kd mt pt : Int) (nm ks : List ByteArray) (ov : Bool) (lm : Int) (ts : List (TestN n)) (b : Nat) (l0 : List AToken) (w : World) (hT : Tabs w b) (hW : WrAt w b l0) (k1 : 1 ≤ kd) (k2 : kd ≤ 2) (hlim : l0.length + 8 ≤ 1073741824) : Calls Tryd.prog 161 #[.pointer (some ⟨b, 0, none⟩), .agg #[.int .i64 kd, .int .i64 mt, .int .i64 pt, .slice A1 nm.length c1, .slice A2 ks.length c2, .bool ov, .int .i64 lm, .slice A3 ts.length c3]] w (fun e w' => e = .returned (.tuple #[]) ∧ WrAt w' b (l0 ++ [tk 1 (wordAt testWords kd)]) ∧ Wrote b w w') := by
  have b3 : (kd == 3) = false := by rw [beq_eq_false_iff_ne]; omega
  have b4 : (kd == 4) = false := by rw [beq_eq_false_iff_ne]; omega
  have b5 : (kd == 5) = false := by rw [beq_eq_false_iff_ne]; omega
  have b6 : (kd == 6) = false := by rw [beq_eq_false_iff_ne]; omega
  have b7 : (kd == 7) = false := by rw [beq_eq_false_iff_ne]; omega
  have b8 : (kd == 8) = false := by rw [beq_eq_false_iff_ne]; omega
  have b9 : (kd == 9) = false := by rw [beq_eq_false_iff_ne]; omega
  have b10 : (kd == 10) = false := by rw [beq_eq_false_iff_ne]; omega
  have nk6 : (kd != 6) = true := by rw [bne_iff_ne]; omega
  have hbl := hW.lt
  have ha : Below b w (w.alloc (.cells #[.int .i64 kd, .int .i64 mt, .int .i64 pt, .slice A1 nm.length c1, .slice A2 ks.length c2, .bool ov, .int .i64 lm, .slice A3 ts.length c3] 107)) := (Below.refl _ _).alloc (Nat.le_of_lt hbl) _
  obtain ⟨k, hkd⟩ : ∃ k : Nat, kd = (k : Int) := ⟨kd.toNat, by omega⟩
  have hwd := word_at (hT.1.step ha) k (by show k < 11; omega)
  rw [← hkd] at hwd
  have i0 : 0 ≤ kd := by omega
  have i1 : kd < 11 := by omega
  have hkn : kd.toNat = k := by omega
  have hP : BlkT (w.alloc (.cells #[.int .i64 kd, .int .i64 mt, .int .i64 pt, .slice A1 nm.length c1, .slice A2 ks.length c2, .bool ov, .int .i64 lm, .slice A3 ts.length c3] 107)) w.heap.size 107 [.int .i64 kd, .int .i64 mt, .int .i64 pt, .slice A1 nm.length c1, .slice A2 ks.length c2, .bool ov, .int .i64 lm, .slice A3 ts.length c3] := BlkT.made w _ _
  have hR : Wrote b w (w.alloc (.cells #[.int .i64 kd, .int .i64 mt, .int .i64 pt, .slice A1 nm.length c1, .slice A2 ks.length c2, .bool ov, .int .i64 lm, .slice A3 ts.length c3] 107)) := (Wrote.refl b w).alloc (Nat.le_of_lt hbl) _
  have HP := Lib.hid (fun l k s w h hl => put_calls b l k s w h hl)
  have HL := Lib.hid (fun l0 A c l w h hr h0 hl => wlist_calls b l0 A c l w h hr h0 hl)
  replace hW := Lib.hid (hW.below ((Below.refl _ _).alloc (Nat.le_refl _) (.cells #[.int .i64 kd, .int .i64 mt, .int .i64 pt, .slice A1 nm.length c1, .slice A2 ks.length c2, .bool ov, .int .i64 lm, .slice A3 ts.length c3] 107)))
  generalize wordAt testWords kd = word at *
  have p0 := hP.1.at 0 _ rfl
  have p1 := hP.1.at 1 _ rfl
  have p2 := hP.1.at 2 _ rfl
  have p3 := hP.1.at 3 _ rfl
  have p4 := hP.1.at 4 _ rfl
  have p5 := hP.1.at 5 _ rfl
  have p6 := hP.1.at 6 _ rfl
  have p7 := hP.1.at 7 _ rfl
  clear hkd k1 k2
  replace hlim := Lib.hid hlim
  replace hT := Lib.hid hT
  go_enter Tryd.func161, Tryd.ntmps161
  go_wp2_with fail
  refine (HP.out _ 1 word _ hW.out (by have := hlim.out; (try simp only [List.length_append, List.length_cons, List.length_nil]); omega)).mono ?_
  rintro e w1 ⟨rfl, hWn, hRn⟩
  clear p0 p1 p2 p3 p4 p5 p6 p7
  replace hP := hRn.2.2 _ _ _ (by omega) (by decide) hP
  replace hR := hR.trans hRn
  replace hW := Lib.hid hWn
  clear hRn hWn
  have p0 := hP.1.at 0 _ rfl
  have p1 := hP.1.at 1 _ rfl
  have p2 := hP.1.at 2 _ rfl
  have p3 := hP.1.at 3 _ rfl
  have p4 := hP.1.at 4 _ rfl
  have p5 := hP.1.at 5 _ rfl
  have p6 := hP.1.at 6 _ rfl
  have p7 := hP.1.at 7 _ rfl
  go_wp2_with fail
  go_end0
  exact ⟨rfl, by simpa using hW.out, hR⟩
set_option maxHeartbeats 1000000 in
set_option maxRecDepth 100000 in
theorem wt_E (n : Nat) (A1 : Option Addr) (c1 : Nat) (A2 : Option Addr) (c2 : Nat) (A3 : Option Addr) (c3 : Nat) (kd mt pt : Int) (nm ks : List ByteArray) (ov : Bool) (lm : Int) (ts : List (TestN n)) (b : Nat) (l0 : List AToken) (w : World) (hT : Tabs w b) (hW : WrAt w b l0) (k1 : 9 ≤ kd) (k2 : kd ≤ 9) (r1 : Und Kd.string w b A1 nm) (hn : 0 < nm.length) (hlim : l0.length + 8 * (1 + nm.length) ≤ 1073741824) : Calls Tryd.prog 161 #[.pointer (some ⟨b, 0, none⟩), .agg #[.int .i64 kd, .int .i64 mt, .int .i64 pt, .slice A1 nm.length c1, .slice A2 ks.length c2, .bool ov, .int .i64 lm, .slice A3 ts.length c3]] w (fun e w' => e = .returned (.tuple #[]) ∧ WrAt w' b (l0 ++ (tk 1 (wordAt testWords kd) :: strsV nm)) ∧ Wrote b w w') := by
  have b3 : (kd == 3) = false := by rw [beq_eq_false_iff_ne]; omega
  have b4 : (kd == 4) = false := by rw [beq_eq_false_iff_ne]; omega
  have b5 : (kd == 5) = false := by rw [beq_eq_false_iff_ne]; omega
  have b6 : (kd == 6) = false := by rw [beq_eq_false_iff_ne]; omega
  have b7 : (kd == 7) = false := by rw [beq_eq_false_iff_ne]; omega
  have b8 : (kd == 8) = false := by rw [beq_eq_false_iff_ne]; omega
  have b9 : (kd == 9) = true := by rw [beq_iff_eq]; omega
  have b10 : (kd == 10) = false := by rw [beq_eq_false_iff_ne]; omega
  have nk6 : (kd != 6) = true := by rw [bne_iff_ne]; omega
  replace hn := Lib.hid hn
  replace r1 := Lib.hid r1
  have hbl := hW.lt
  have ha : Below b w (w.alloc (.cells #[.int .i64 kd, .int .i64 mt, .int .i64 pt, .slice A1 nm.length c1, .slice A2 ks.length c2, .bool ov, .int .i64 lm, .slice A3 ts.length c3] 107)) := (Below.refl _ _).alloc (Nat.le_of_lt hbl) _
  obtain ⟨k, hkd⟩ : ∃ k : Nat, kd = (k : Int) := ⟨kd.toNat, by omega⟩
  have hwd := word_at (hT.1.step ha) k (by show k < 11; omega)
  rw [← hkd] at hwd
  have i0 : 0 ≤ kd := by omega
  have i1 : kd < 11 := by omega
  have hkn : kd.toNat = k := by omega
  have hP : BlkT (w.alloc (.cells #[.int .i64 kd, .int .i64 mt, .int .i64 pt, .slice A1 nm.length c1, .slice A2 ks.length c2, .bool ov, .int .i64 lm, .slice A3 ts.length c3] 107)) w.heap.size 107 [.int .i64 kd, .int .i64 mt, .int .i64 pt, .slice A1 nm.length c1, .slice A2 ks.length c2, .bool ov, .int .i64 lm, .slice A3 ts.length c3] := BlkT.made w _ _
  have hR : Wrote b w (w.alloc (.cells #[.int .i64 kd, .int .i64 mt, .int .i64 pt, .slice A1 nm.length c1, .slice A2 ks.length c2, .bool ov, .int .i64 lm, .slice A3 ts.length c3] 107)) := (Wrote.refl b w).alloc (Nat.le_of_lt hbl) _
  have HP := Lib.hid (fun l k s w h hl => put_calls b l k s w h hl)
  have HL := Lib.hid (fun l0 A c l w h hr h0 hl => wlist_calls b l0 A c l w h hr h0 hl)
  replace hW := Lib.hid (hW.below ((Below.refl _ _).alloc (Nat.le_refl _) (.cells #[.int .i64 kd, .int .i64 mt, .int .i64 pt, .slice A1 nm.length c1, .slice A2 ks.length c2, .bool ov, .int .i64 lm, .slice A3 ts.length c3] 107)))
  generalize wordAt testWords kd = word at *
  have p0 := hP.1.at 0 _ rfl
  have p1 := hP.1.at 1 _ rfl
  have p2 := hP.1.at 2 _ rfl
  have p3 := hP.1.at 3 _ rfl
  have p4 := hP.1.at 4 _ rfl
  have p5 := hP.1.at 5 _ rfl
  have p6 := hP.1.at 6 _ rfl
  have p7 := hP.1.at 7 _ rfl
  clear hkd k1 k2
  replace hlim := Lib.hid hlim
  replace hT := Lib.hid hT
  go_enter Tryd.func161, Tryd.ntmps161
  go_wp2_with fail
  refine (HP.out _ 1 word _ hW.out (by have := hlim.out; (try simp only [List.length_append, List.length_cons, List.length_nil]); omega)).mono ?_
  rintro e w1 ⟨rfl, hWn, hRn⟩
  clear p0 p1 p2 p3 p4 p5 p6 p7
  replace hP := hRn.2.2 _ _ _ (by omega) (by decide) hP
  replace hR := hR.trans hRn
  replace hW := Lib.hid hWn
  clear hRn hWn
  have p0 := hP.1.at 0 _ rfl
  have p1 := hP.1.at 1 _ rfl
  have p2 := hP.1.at 2 _ rfl
  have p3 := hP.1.at 3 _ rfl
  have p4 := hP.1.at 4 _ rfl
  have p5 := hP.1.at 5 _ rfl
  have p6 := hP.1.at 6 _ rfl
  have p7 := hP.1.at 7 _ rfl
  go_wp2_with fail
  refine (HL.out _ A1 c1 nm _ hW.out (r1.out.step hR.1) hn.out (by have := hlim.out; (try simp only [List.length_append, List.length_cons, List.length_nil]); omega)).mono ?_
  rintro e w2 ⟨rfl, hWn, hRn⟩
  clear p0 p1 p2 p3 p4 p5 p6 p7
  replace hP := hRn.2.2 _ _ _ (by omega) (by decide) hP
  replace hR := hR.trans hRn
  replace hW := Lib.hid hWn
  clear hRn hWn
  have p0 := hP.1.at 0 _ rfl
  have p1 := hP.1.at 1 _ rfl
  have p2 := hP.1.at 2 _ rfl
  have p3 := hP.1.at 3 _ rfl
  have p4 := hP.1.at 4 _ rfl
  have p5 := hP.1.at 5 _ rfl
  have p6 := hP.1.at 6 _ rfl
  have p7 := hP.1.at 7 _ rfl
  go_wp2_with fail
  go_end0
  exact ⟨rfl, by simpa using hW.out, hR⟩
set_option maxHeartbeats 1000000 in
set_option maxRecDepth 100000 in
theorem wt_H (n : Nat) (A1 : Option Addr) (c1 : Nat) (A2 : Option Addr) (c2 : Nat) (A3 : Option Addr) (c3 : Nat) (kd mt pt : Int) (nm ks : List ByteArray) (ov : Bool) (lm : Int) (ts : List (TestN n)) (b : Nat) (l0 : List AToken) (w : World) (hT : Tabs w b) (hW : WrAt w b l0) (k1 : 6 ≤ kd) (k2 : kd ≤ 6) (m1 : 1 ≤ mt) (m2 : mt ≤ 3) (r1 : Und Kd.string w b A1 nm) (hn : 0 < nm.length) (r2 : Und Kd.string w b A2 ks) (hk : 0 < ks.length) (hlim : l0.length + 8 * (1 + nm.length + ks.length) ≤ 1073741824) : Calls Tryd.prog 161 #[.pointer (some ⟨b, 0, none⟩), .agg #[.int .i64 kd, .int .i64 mt, .int .i64 pt, .slice A1 nm.length c1, .slice A2 ks.length c2, .bool ov, .int .i64 lm, .slice A3 ts.length c3]] w (fun e w' => e = .returned (.tuple #[]) ∧ WrAt w' b (l0 ++ (tk 1 (wordAt testWords kd) :: tk 2 (wordAt matchWords mt) :: (strsV nm ++ strsV ks))) ∧ Wrote b w w') := by
  have b3 : (kd == 3) = false := by rw [beq_eq_false_iff_ne]; omega
  have b4 : (kd == 4) = false := by rw [beq_eq_false_iff_ne]; omega
  have b5 : (kd == 5) = false := by rw [beq_eq_false_iff_ne]; omega
  have b6 : (kd == 6) = true := by rw [beq_iff_eq]; omega
  have b7 : (kd == 7) = false := by rw [beq_eq_false_iff_ne]; omega
  have b8 : (kd == 8) = false := by rw [beq_eq_false_iff_ne]; omega
  have b9 : (kd == 9) = false := by rw [beq_eq_false_iff_ne]; omega
  have b10 : (kd == 10) = false := by rw [beq_eq_false_iff_ne]; omega
  have nk6 : (kd != 6) = false := by rw [bne_eq_false_iff_eq]; omega
  replace hn := Lib.hid hn
  replace hk := Lib.hid hk
  replace r1 := Lib.hid r1
  replace r2 := Lib.hid r2
  obtain ⟨j, hj⟩ : ∃ j : Nat, mt = (j : Int) := ⟨mt.toNat, by omega⟩
  have u0 : 0 ≤ mt := by omega
  have u1 : mt < 4 := by omega
  have ujn : mt.toNat = j := by omega
  have hjw := Lib.hid (fun W (h : Tabs W b) => by have := word_at h.2.2.1 j (by show j < 4; omega); rw [← hj] at this; exact this)
  clear m1 m2 hj
  have hbl := hW.lt
  have ha : Below b w (w.alloc (.cells #[.int .i64 kd, .int .i64 mt, .int .i64 pt, .slice A1 nm.length c1, .slice A2 ks.length c2, .bool ov, .int .i64 lm, .slice A3 ts.length c3] 107)) := (Below.refl _ _).alloc (Nat.le_of_lt hbl) _
  obtain ⟨k, hkd⟩ : ∃ k : Nat, kd = (k : Int) := ⟨kd.toNat, by omega⟩
  have hwd := word_at (hT.1.step ha) k (by show k < 11; omega)
  rw [← hkd] at hwd
  have i0 : 0 ≤ kd := by omega
  have i1 : kd < 11 := by omega
  have hkn : kd.toNat = k := by omega
  have hP : BlkT (w.alloc (.cells #[.int .i64 kd, .int .i64 mt, .int .i64 pt, .slice A1 nm.length c1, .slice A2 ks.length c2, .bool ov, .int .i64 lm, .slice A3 ts.length c3] 107)) w.heap.size 107 [.int .i64 kd, .int .i64 mt, .int .i64 pt, .slice A1 nm.length c1, .slice A2 ks.length c2, .bool ov, .int .i64 lm, .slice A3 ts.length c3] := BlkT.made w _ _
  have hR : Wrote b w (w.alloc (.cells #[.int .i64 kd, .int .i64 mt, .int .i64 pt, .slice A1 nm.length c1, .slice A2 ks.length c2, .bool ov, .int .i64 lm, .slice A3 ts.length c3] 107)) := (Wrote.refl b w).alloc (Nat.le_of_lt hbl) _
  have HP := Lib.hid (fun l k s w h hl => put_calls b l k s w h hl)
  have HL := Lib.hid (fun l0 A c l w h hr h0 hl => wlist_calls b l0 A c l w h hr h0 hl)
  replace hW := Lib.hid (hW.below ((Below.refl _ _).alloc (Nat.le_refl _) (.cells #[.int .i64 kd, .int .i64 mt, .int .i64 pt, .slice A1 nm.length c1, .slice A2 ks.length c2, .bool ov, .int .i64 lm, .slice A3 ts.length c3] 107)))
  generalize wordAt testWords kd = word at *
  have p0 := hP.1.at 0 _ rfl
  have p1 := hP.1.at 1 _ rfl
  have p2 := hP.1.at 2 _ rfl
  have p3 := hP.1.at 3 _ rfl
  have p4 := hP.1.at 4 _ rfl
  have p5 := hP.1.at 5 _ rfl
  have p6 := hP.1.at 6 _ rfl
  have p7 := hP.1.at 7 _ rfl
  clear hkd k1 k2
  replace hlim := Lib.hid hlim
  replace hT := Lib.hid hT
  go_enter Tryd.func161, Tryd.ntmps161
  go_wp2_with fail
  refine (HP.out _ 1 word _ hW.out (by have := hlim.out; (try simp only [List.length_append, List.length_cons, List.length_nil]); omega)).mono ?_
  rintro e w1 ⟨rfl, hWn, hRn⟩
  clear p0 p1 p2 p3 p4 p5 p6 p7
  replace hP := hRn.2.2 _ _ _ (by omega) (by decide) hP
  replace hR := hR.trans hRn
  replace hW := Lib.hid hWn
  clear hRn hWn
  have p0 := hP.1.at 0 _ rfl
  have p1 := hP.1.at 1 _ rfl
  have p2 := hP.1.at 2 _ rfl
  have p3 := hP.1.at 3 _ rfl
  have p4 := hP.1.at 4 _ rfl
  have p5 := hP.1.at 5 _ rfl
  have p6 := hP.1.at 6 _ rfl
  have p7 := hP.1.at 7 _ rfl
  have hq := hjw.out _ (hT.out.step hR.1)
  go_wp2_with fail
  refine (HP.out _ 2 (wordAt matchWords mt) _ hW.out (by have := hlim.out; (try simp only [List.length_append, List.length_cons, List.length_nil]); omega)).mono ?_
  clear hq
  rintro e w2 ⟨rfl, hWn, hRn⟩
  clear p0 p1 p2 p3 p4 p5 p6 p7
  replace hP := hRn.2.2 _ _ _ (by omega) (by decide) hP
  replace hR := hR.trans hRn
  replace hW := Lib.hid hWn
  clear hRn hWn
  have p0 := hP.1.at 0 _ rfl
  have p1 := hP.1.at 1 _ rfl
  have p2 := hP.1.at 2 _ rfl
  have p3 := hP.1.at 3 _ rfl
  have p4 := hP.1.at 4 _ rfl
  have p5 := hP.1.at 5 _ rfl
  have p6 := hP.1.at 6 _ rfl
  have p7 := hP.1.at 7 _ rfl
  go_wp2_with fail
  refine (HL.out _ A1 c1 nm _ hW.out (r1.out.step hR.1) hn.out (by have := hlim.out; (try simp only [List.length_append, List.length_cons, List.length_nil]); omega)).mono ?_
  rintro e w3 ⟨rfl, hWn, hRn⟩
  clear p0 p1 p2 p3 p4 p5 p6 p7
  replace hP := hRn.2.2 _ _ _ (by omega) (by decide) hP
  replace hR := hR.trans hRn
  replace hW := Lib.hid hWn
  clear hRn hWn
  have p0 := hP.1.at 0 _ rfl
  have p1 := hP.1.at 1 _ rfl
  have p2 := hP.1.at 2 _ rfl
  have p3 := hP.1.at 3 _ rfl
  have p4 := hP.1.at 4 _ rfl
  have p5 := hP.1.at 5 _ rfl
  have p6 := hP.1.at 6 _ rfl
  have p7 := hP.1.at 7 _ rfl
  go_wp2_with fail
  refine (HL.out _ A2 c2 ks _ hW.out (r2.out.step hR.1) hk.out (by have := hlim.out; have := strs_len hn.out; simp only [List.length_append, List.length_cons, List.length_nil]; omega)).mono ?_
  rintro e w4 ⟨rfl, hWn, hRn⟩
  clear p0 p1 p2 p3 p4 p5 p6 p7
  replace hP := hRn.2.2 _ _ _ (by omega) (by decide) hP
  replace hR := hR.trans hRn
  replace hW := Lib.hid hWn
  clear hRn hWn
  have p0 := hP.1.at 0 _ rfl
  have p1 := hP.1.at 1 _ rfl
  have p2 := hP.1.at 2 _ rfl
  have p3 := hP.1.at 3 _ rfl
  have p4 := hP.1.at 4 _ rfl
  have p5 := hP.1.at 5 _ rfl
  have p6 := hP.1.at 6 _ rfl
  have p7 := hP.1.at 7 _ rfl
  go_wp2_with fail
  go_end0
  exact ⟨rfl, by simpa using hW.out, hR⟩
end Go.Proofs.YtijdghplfhfpaaaDoor.H

/- Scripts: the writer's test: the kinds that hold tests; sizes. -/
namespace Go.Proofs.YtijdghplfhfpaaaDoor.H
open Go.RowKit Go.Proofs.YtijdghplfhfpaaaDoorW.PrintWords Go.Proofs.YtijdghplfhfpaaaDoorW.PrintLast Go.Proofs.YtijdghplfhfpaaaDoor.U
set_option linter.unusedVariables false
set_option linter.unusedSimpArgs false
theorem errs_all {α : Type} {f : α → Int} : ∀ {l : List α}, errs f l = 0 → ∀ (k : Nat) (hk : k < l.length), f l[k] = 0
  | [], _, k, hk => by simp at hk
  | x :: l, h, 0, _ => by
    rw [errs] at h
    split at h
    · assumption
    · exact h
  | x :: l, h, k + 1, hk => by
    rw [errs] at h
    split at h
    · exact errs_all h k (by simpa using hk)
    · exact absurd h (by assumption)
theorem sum_take {α : Type} (f : α → Nat) : ∀ (l : List α) (k : Nat) (hk : k < l.length), ((l.take k).map f).sum + f l[k] ≤ (l.map f).sum
  | [], k, hk => by simp at hk
  | x :: l, 0, _ => by simp
  | x :: l, k + 1, hk => by
    have := sum_take f l k (by simpa using hk)
    simp only [List.take_succ_cons, List.map_cons, List.sum_cons, List.getElem_cons_succ]
    omega
set_option maxHeartbeats 2000000 in
set_option maxRecDepth 100000 in
theorem wt_L4 (n : Nat) (A1 : Option Addr) (c1 : Nat) (A2 : Option Addr) (c2 : Nat) (A3 : Option Addr) (c3 : Nat) (kd mt pt : Int) (nm ks : List ByteArray) (ov : Bool) (lm : Int) (ts : List (TestN n)) (b : Nat) (l0 : List AToken) (w : World) (hT : Tabs w b) (hW : WrAt w b l0) (k1 : 4 ≤ kd) (k2 : kd ≤ 4) (IH : WtT n) (dp : Int) (hc : errs (fun x => checkT n x (dp + 1)) ts = 0) (r3 : Und (kTest n) w b A3 ts) (hlim : l0.length + 8 * (1 + (ts.map (wtT n)).sum) ≤ 1073741824) : Calls Tryd.prog 161 #[.pointer (some ⟨b, 0, none⟩), .agg #[.int .i64 kd, .int .i64 mt, .int .i64 pt, .slice A1 nm.length c1, .slice A2 ks.length c2, .bool ov, .int .i64 lm, .slice A3 ts.length c3]] w (fun e w' => e = .returned (.tuple #[]) ∧ WrAt w' b (l0 ++ (tk 1 (wordAt testWords kd) :: (headT (showT n) ts ++ [tk 5 (⟨#[41]⟩ : ByteArray)]))) ∧ Wrote b w w') := by
  have b3 : (kd == 3) = false := by rw [beq_eq_false_iff_ne]; omega
  have b4 : (kd == 4) = true := by rw [beq_iff_eq]; omega
  have b5 : (kd == 5) = false := by rw [beq_eq_false_iff_ne]; omega
  have b6 : (kd == 6) = false := by rw [beq_eq_false_iff_ne]; omega
  have b7 : (kd == 7) = false := by rw [beq_eq_false_iff_ne]; omega
  have b8 : (kd == 8) = false := by rw [beq_eq_false_iff_ne]; omega
  have b9 : (kd == 9) = false := by rw [beq_eq_false_iff_ne]; omega
  have b10 : (kd == 10) = false := by rw [beq_eq_false_iff_ne]; omega
  have nk6 : (kd != 6) = true := by rw [bne_iff_ne]; omega
  have h63 := r3.now.2.1
  have hst := Lib.hid (sum_take (wtT n) ts)
  have hhl := Lib.hid (fun k => headT_len (showT n) (wtT n) (showT_len n) (ts.take k))
  have hhf := Lib.hid (headT_len (showT n) (wtT n) (showT_len n) ts)
  replace hc := Lib.hid (fun k hk => errs_all hc k hk)
  replace IH := Lib.hid IH
  replace r3 := Lib.hid r3
  have hbl := hW.lt
  have ha : Below b w (w.alloc (.cells #[.int .i64 kd, .int .i64 mt, .int .i64 pt, .slice A1 nm.length c1, .slice A2 ks.length c2, .bool ov, .int .i64 lm, .slice A3 ts.length c3] 107)) := (Below.refl _ _).alloc (Nat.le_of_lt hbl) _
  obtain ⟨k, hkd⟩ : ∃ k : Nat, kd = (k : Int) := ⟨kd.toNat, by omega⟩
  have hwd := word_at (hT.1.step ha) k (by show k < 11; omega)
  rw [← hkd] at hwd
  have i0 : 0 ≤ kd := by omega
  have i1 : kd < 11 := by omega
  have hkn : kd.toNat = k := by omega
  have hP : BlkT (w.alloc (.cells #[.int .i64 kd, .int .i64 mt, .int .i64 pt, .slice A1 nm.length c1, .slice A2 ks.length c2, .bool ov, .int .i64 lm, .slice A3 ts.length c3] 107)) w.heap.size 107 [.int .i64 kd, .int .i64 mt, .int .i64 pt, .slice A1 nm.length c1, .slice A2 ks.length c2, .bool ov, .int .i64 lm, .slice A3 ts.length c3] := BlkT.made w _ _
  have hR : Wrote b w (w.alloc (.cells #[.int .i64 kd, .int .i64 mt, .int .i64 pt, .slice A1 nm.length c1, .slice A2 ks.length c2, .bool ov, .int .i64 lm, .slice A3 ts.length c3] 107)) := (Wrote.refl b w).alloc (Nat.le_of_lt hbl) _
  have HP := Lib.hid (fun l k s w h hl => put_calls b l k s w h hl)
  have HL := Lib.hid (fun l0 A c l w h hr h0 hl => wlist_calls b l0 A c l w h hr h0 hl)
  replace hW := Lib.hid (hW.below ((Below.refl _ _).alloc (Nat.le_refl _) (.cells #[.int .i64 kd, .int .i64 mt, .int .i64 pt, .slice A1 nm.length c1, .slice A2 ks.length c2, .bool ov, .int .i64 lm, .slice A3 ts.length c3] 107)))
  generalize wordAt testWords kd = word at *
  have p0 := hP.1.at 0 _ rfl
  have p1 := hP.1.at 1 _ rfl
  have p2 := hP.1.at 2 _ rfl
  have p3 := hP.1.at 3 _ rfl
  have p4 := hP.1.at 4 _ rfl
  have p5 := hP.1.at 5 _ rfl
  have p6 := hP.1.at 6 _ rfl
  have p7 := hP.1.at 7 _ rfl
  clear hkd k1 k2
  replace hlim := Lib.hid hlim
  replace hT := Lib.hid hT
  go_enter Tryd.func161, Tryd.ntmps161
  go_wp2_with fail
  refine (HP.out _ 1 word _ hW.out (by have := hlim.out; (try simp only [List.length_append, List.length_cons, List.length_nil]); omega)).mono ?_
  rintro e w1 ⟨rfl, hWn, hRn⟩
  clear p0 p1 p2 p3 p4 p5 p6 p7
  replace hP := hRn.2.2 _ _ _ (by omega) (by decide) hP
  replace hR := hR.trans hRn
  replace hW := Lib.hid hWn
  clear hRn hWn
  have p0 := hP.1.at 0 _ rfl
  have p1 := hP.1.at 1 _ rfl
  have p2 := hP.1.at 2 _ rfl
  have p3 := hP.1.at 3 _ rfl
  have p4 := hP.1.at 4 _ rfl
  have p5 := hP.1.at 5 _ rfl
  have p6 := hP.1.at 6 _ rfl
  have p7 := hP.1.at 7 _ rfl
  go_wp2_with fail
  clear p0 p1 p2 p3 p4 p5 p6 p7 hP
  go_loopw [28] (fun i wr => ∃ k : Nat, k ≤ ts.length ∧ i = .int .i64 k ∧ WrAt wr b (l0 ++ (tk 1 word :: headT (showT n) (ts.take k))) ∧ Wrote b w wr) (fun i _ => ts.length - (intOf i).toNat)
  case atStart => exact ⟨0, Nat.zero_le _, rfl, by simpa [headT] using hW.out, hR⟩
  case round =>
    clear hW hR
    obtain ⟨k, hk, rfl, hW, hR⟩ := hrel
    have hbw := hW.lt
    by_cases hlt : k < ts.length
    · obtain ⟨ad, cx, e1', hKx, hxx⟩ := r3.out.elem (kTest_sz n) k hlt
      obtain ⟨x0, x1, x2, X3, l3, C3, X4, l4, C4, x5, x6, X7, l7, C7, rfl⟩ := testN_K hKx.now
      subst e1'
      obtain ⟨hx0, hxj⟩ := hxx wr hR.1
      have q0 := hx0 _ rfl; have q1 := hxj 1 _ (by decide) rfl; have q2 := hxj 2 _ (by decide) rfl; have q3 := hxj 3 _ (by decide) rfl; have q4 := hxj 4 _ (by decide) rfl; have q5 := hxj 5 _ (by decide) rfl; have q6 := hxj 6 _ (by decide) rfl; have q7 := hxj 7 _ (by decide) rfl
      clear hx0 hxj hxx
      have hts := List.take_succ_eq_append_getElem hlt
      have hlk : (ts.take k).length = k := by rw [List.length_take]; omega
      have HX := Lib.hid (fun l0 W (h : Below b w W) hT hW hl => IH.out (ts[k]'hlt) _ (dp + 1) b l0 W (hKx.step h) (hc.out k hlt) hT hW hl)
      have hsum : ((ts.take k).map (wtT n)).sum + wtT n ts[k] ≤ (ts.map (wtT n)).sum := hst.out k hlt
      have hlen := hhl.out k
      have hsn : headT (showT n) (ts.take (k + 1)) = (headT (showT n) (ts.take k) ++ [tk 5 (if k = 0 then (⟨#[40]⟩ : ByteArray) else (⟨#[44]⟩ : ByteArray))]) ++ showT n ts[k] := by
        rw [hts]
        by_cases h0 : k = 0
        · subst h0; rw [if_pos rfl]; exact headT_first (showT n) _
        · rw [if_neg h0]; exact headT_snoc (showT n) (by omega) _
      have hlim2 := Lib.hid (show (headT (showT n) (ts.take k)).length + 8 * wtT n ts[k] ≤ 8 * (ts.map (wtT n)).sum by omega)
      replace hsn := Lib.hid hsn
      clear hts hlk hsum hlen hKx
      generalize showT n ts[k] = Sx at *
      generalize wtT n ts[k] = wt at *
      generalize headT (showT n) (ts.take k) = H at *
      have i0' : (0 : Int) ≤ (k : Int) := by omega
      have i1' : (k : Int) < (ts.length : Int) := by omega
      have hP : BlkT (wr.alloc (.cells #[.int .i64 x0, .int .i64 x1, .int .i64 x2, .slice X3 l3 C3, .slice X4 l4 C4, .bool x5, .int .i64 x6, .slice X7 l7 C7] 107)) wr.heap.size 107 [.int .i64 x0, .int .i64 x1, .int .i64 x2, .slice X3 l3 C3, .slice X4 l4 C4, .bool x5, .int .i64 x6, .slice X7 l7 C7] := BlkT.made wr _ _
      have hPx := hP.alloc (.cells #[.string (⟨#[44]⟩ : ByteArray), .string (⟨#[40]⟩ : ByteArray)] 9)
      have hsz : (wr.alloc (.cells #[.int .i64 x0, .int .i64 x1, .int .i64 x2, .slice X3 l3 C3, .slice X4 l4 C4, .bool x5, .int .i64 x6, .slice X7 l7 C7] 107)).heap.size = wr.heap.size + 1 := by simp
      have hO : Blk ((wr.alloc (.cells #[.int .i64 x0, .int .i64 x1, .int .i64 x2, .slice X3 l3 C3, .slice X4 l4 C4, .bool x5, .int .i64 x6, .slice X7 l7 C7] 107)).alloc (.cells #[.string (⟨#[44]⟩ : ByteArray), .string (⟨#[40]⟩ : ByteArray)] 9)) (wr.heap.size + 1) [.string (⟨#[44]⟩ : ByteArray), .string (⟨#[40]⟩ : ByteArray)] := Blk.made_at _ _ _ hsz
      have o0 := hO.at 0 _ rfl
      have o1 := hO.at 1 _ rfl
      have hW2 := hW.below (((Below.refl _ _).alloc (Nat.le_refl _) (.cells #[.int .i64 x0, .int .i64 x1, .int .i64 x2, .slice X3 l3 C3, .slice X4 l4 C4, .bool x5, .int .i64 x6, .slice X7 l7 C7] 107)).alloc (by simp) (.cells #[.string (⟨#[44]⟩ : ByteArray), .string (⟨#[40]⟩ : ByteArray)] 9))
      have hR2 := (hR.alloc (Nat.le_of_lt hbw) (.cells #[.int .i64 x0, .int .i64 x1, .int .i64 x2, .slice X3 l3 C3, .slice X4 l4 C4, .bool x5, .int .i64 x6, .slice X7 l7 C7] 107)).alloc (by simp; omega) (.cells #[.string (⟨#[44]⟩ : ByteArray), .string (⟨#[40]⟩ : ByteArray)] 9)
      clear hW hR hP hO hsz
      by_cases h0 : k = 0
      · have k0b : ((k : Int) == 0) = true := by rw [beq_iff_eq]; omega
        have ez : ad.add (k * 8) = ad := by subst h0; simp [Addr.add]
        have hs2 := Lib.hid (show headT (showT n) (ts.take (k + 1)) = (H ++ [tk 5 (⟨#[40]⟩ : ByteArray)]) ++ Sx by have := hsn.out; rw [if_pos h0] at this; exact this)
        clear h0 ez
        replace hW2 := Lib.hid hW2
        go_wp2_with (go_at_call 163; refine (flag_calls _ _).mono ?_; rintro e w' ⟨rfl, rfl⟩)
        refine (HP.out _ 5 (⟨#[40]⟩ : ByteArray) _ hW2.out (by have := hlim.out; have := hlim2.out; simp only [List.length_append, List.length_cons]; omega)).mono ?_
        rintro e w3 ⟨rfl, hW3, hR3⟩
        have hP3 := hR3.2.2 _ _ _ (by omega) (by decide) hPx
        have hR23 := hR2.trans hR3
        replace hW3 := Lib.hid hW3
        clear hR3 hPx o0 o1 q0 q1 q2 q3 q4 q5 q6 q7
        have p0 := hP3.1.at 0 _ rfl
        have p1 := hP3.1.at 1 _ rfl
        have p2 := hP3.1.at 2 _ rfl
        have p3 := hP3.1.at 3 _ rfl
        have p4 := hP3.1.at 4 _ rfl
        have p5 := hP3.1.at 5 _ rfl
        have p6 := hP3.1.at 6 _ rfl
        have p7 := hP3.1.at 7 _ rfl
        go_wp2_with fail
        refine (HX.out _ _ hR23.1 (hT.out.step hR23.1) hW3.out (by have := hlim.out; have := hlim2.out; simp only [List.length_append, List.length_cons, List.length_nil]; omega)).mono ?_
        rintro e w4 ⟨rfl, hW4, hR4⟩
        replace hW4 := Lib.hid hW4
        go_wp2_with fail
        go_roundw
        case rel => exact ⟨k + 1, hlt, by go_num, by rw [hs2.out]; simpa using hW4.out, hR23.trans hR4⟩
        case measure => simp [intOf]; omega
      · have k0b : ((k : Int) == 0) = false := by rw [beq_eq_false_iff_ne]; omega
        have hs2 := Lib.hid (show headT (showT n) (ts.take (k + 1)) = (H ++ [tk 5 (⟨#[44]⟩ : ByteArray)]) ++ Sx by have := hsn.out; rw [if_neg h0] at this; exact this)
        clear h0
        replace hW2 := Lib.hid hW2
        go_wp2_with (go_at_call 163; refine (flag_calls _ _).mono ?_; rintro e w' ⟨rfl, rfl⟩)
        refine (HP.out _ 5 (⟨#[44]⟩ : ByteArray) _ hW2.out (by have := hlim.out; have := hlim2.out; simp only [List.length_append, List.length_cons]; omega)).mono ?_
        rintro e w3 ⟨rfl, hW3, hR3⟩
        have hP3 := hR3.2.2 _ _ _ (by omega) (by decide) hPx
        have hR23 := hR2.trans hR3
        replace hW3 := Lib.hid hW3
        clear hR3 hPx o0 o1 q0 q1 q2 q3 q4 q5 q6 q7
        have p0 := hP3.1.at 0 _ rfl
        have p1 := hP3.1.at 1 _ rfl
        have p2 := hP3.1.at 2 _ rfl
        have p3 := hP3.1.at 3 _ rfl
        have p4 := hP3.1.at 4 _ rfl
        have p5 := hP3.1.at 5 _ rfl
        have p6 := hP3.1.at 6 _ rfl
        have p7 := hP3.1.at 7 _ rfl
        go_wp2_with fail
        refine (HX.out _ _ hR23.1 (hT.out.step hR23.1) hW3.out (by have := hlim.out; have := hlim2.out; simp only [List.length_append, List.length_cons, List.length_nil]; omega)).mono ?_
        rintro e w4 ⟨rfl, hW4, hR4⟩
        replace hW4 := Lib.hid hW4
        go_wp2_with fail
        go_roundw
        case rel => exact ⟨k + 1, hlt, by go_num, by rw [hs2.out]; simpa using hW4.out, hR23.trans hR4⟩
        case measure => simp [intOf]; omega
    · obtain rfl : k = ts.length := by omega
      rw [List.take_length] at hW
      have i1' : ¬ (ts.length : Int) < (ts.length : Int) := by omega
      have HQ := Lib.hid (HP.out _ 5 (⟨#[41]⟩ : ByteArray) wr hW (by have := hlim.out; have := hhf.out; simp only [List.length_append, List.length_cons]; omega))
      clear hW
      go_wp2_with fail
      refine HQ.out.mono ?_
      rintro e w2 ⟨rfl, hW2, hR2⟩
      replace hW2 := Lib.hid hW2
      replace hR := hR.trans hR2
      go_wp2_with fail
      go_end0
      exact ⟨rfl, by simpa using hW2.out, hR⟩
set_option maxHeartbeats 2000000 in
set_option maxRecDepth 100000 in
theorem wt_L5 (n : Nat) (A1 : Option Addr) (c1 : Nat) (A2 : Option Addr) (c2 : Nat) (A3 : Option Addr) (c3 : Nat) (kd mt pt : Int) (nm ks : List ByteArray) (ov : Bool) (lm : Int) (ts : List (TestN n)) (b : Nat) (l0 : List AToken) (w : World) (hT : Tabs w b) (hW : WrAt w b l0) (k1 : 5 ≤ kd) (k2 : kd ≤ 5) (IH : WtT n) (dp : Int) (hc : errs (fun x => checkT n x (dp + 1)) ts = 0) (r3 : Und (kTest n) w b A3 ts) (hlim : l0.length + 8 * (1 + (ts.map (wtT n)).sum) ≤ 1073741824) : Calls Tryd.prog 161 #[.pointer (some ⟨b, 0, none⟩), .agg #[.int .i64 kd, .int .i64 mt, .int .i64 pt, .slice A1 nm.length c1, .slice A2 ks.length c2, .bool ov, .int .i64 lm, .slice A3 ts.length c3]] w (fun e w' => e = .returned (.tuple #[]) ∧ WrAt w' b (l0 ++ (tk 1 (wordAt testWords kd) :: (headT (showT n) ts ++ [tk 5 (⟨#[41]⟩ : ByteArray)]))) ∧ Wrote b w w') := by
  have b3 : (kd == 3) = false := by rw [beq_eq_false_iff_ne]; omega
  have b4 : (kd == 4) = false := by rw [beq_eq_false_iff_ne]; omega
  have b5 : (kd == 5) = true := by rw [beq_iff_eq]; omega
  have b6 : (kd == 6) = false := by rw [beq_eq_false_iff_ne]; omega
  have b7 : (kd == 7) = false := by rw [beq_eq_false_iff_ne]; omega
  have b8 : (kd == 8) = false := by rw [beq_eq_false_iff_ne]; omega
  have b9 : (kd == 9) = false := by rw [beq_eq_false_iff_ne]; omega
  have b10 : (kd == 10) = false := by rw [beq_eq_false_iff_ne]; omega
  have nk6 : (kd != 6) = true := by rw [bne_iff_ne]; omega
  have h63 := r3.now.2.1
  have hst := Lib.hid (sum_take (wtT n) ts)
  have hhl := Lib.hid (fun k => headT_len (showT n) (wtT n) (showT_len n) (ts.take k))
  have hhf := Lib.hid (headT_len (showT n) (wtT n) (showT_len n) ts)
  replace hc := Lib.hid (fun k hk => errs_all hc k hk)
  replace IH := Lib.hid IH
  replace r3 := Lib.hid r3
  have hbl := hW.lt
  have ha : Below b w (w.alloc (.cells #[.int .i64 kd, .int .i64 mt, .int .i64 pt, .slice A1 nm.length c1, .slice A2 ks.length c2, .bool ov, .int .i64 lm, .slice A3 ts.length c3] 107)) := (Below.refl _ _).alloc (Nat.le_of_lt hbl) _
  obtain ⟨k, hkd⟩ : ∃ k : Nat, kd = (k : Int) := ⟨kd.toNat, by omega⟩
  have hwd := word_at (hT.1.step ha) k (by show k < 11; omega)
  rw [← hkd] at hwd
  have i0 : 0 ≤ kd := by omega
  have i1 : kd < 11 := by omega
  have hkn : kd.toNat = k := by omega
  have hP : BlkT (w.alloc (.cells #[.int .i64 kd, .int .i64 mt, .int .i64 pt, .slice A1 nm.length c1, .slice A2 ks.length c2, .bool ov, .int .i64 lm, .slice A3 ts.length c3] 107)) w.heap.size 107 [.int .i64 kd, .int .i64 mt, .int .i64 pt, .slice A1 nm.length c1, .slice A2 ks.length c2, .bool ov, .int .i64 lm, .slice A3 ts.length c3] := BlkT.made w _ _
  have hR : Wrote b w (w.alloc (.cells #[.int .i64 kd, .int .i64 mt, .int .i64 pt, .slice A1 nm.length c1, .slice A2 ks.length c2, .bool ov, .int .i64 lm, .slice A3 ts.length c3] 107)) := (Wrote.refl b w).alloc (Nat.le_of_lt hbl) _
  have HP := Lib.hid (fun l k s w h hl => put_calls b l k s w h hl)
  have HL := Lib.hid (fun l0 A c l w h hr h0 hl => wlist_calls b l0 A c l w h hr h0 hl)
  replace hW := Lib.hid (hW.below ((Below.refl _ _).alloc (Nat.le_refl _) (.cells #[.int .i64 kd, .int .i64 mt, .int .i64 pt, .slice A1 nm.length c1, .slice A2 ks.length c2, .bool ov, .int .i64 lm, .slice A3 ts.length c3] 107)))
  generalize wordAt testWords kd = word at *
  have p0 := hP.1.at 0 _ rfl
  have p1 := hP.1.at 1 _ rfl
  have p2 := hP.1.at 2 _ rfl
  have p3 := hP.1.at 3 _ rfl
  have p4 := hP.1.at 4 _ rfl
  have p5 := hP.1.at 5 _ rfl
  have p6 := hP.1.at 6 _ rfl
  have p7 := hP.1.at 7 _ rfl
  clear hkd k1 k2
  replace hlim := Lib.hid hlim
  replace hT := Lib.hid hT
  go_enter Tryd.func161, Tryd.ntmps161
  go_wp2_with fail
  refine (HP.out _ 1 word _ hW.out (by have := hlim.out; (try simp only [List.length_append, List.length_cons, List.length_nil]); omega)).mono ?_
  rintro e w1 ⟨rfl, hWn, hRn⟩
  clear p0 p1 p2 p3 p4 p5 p6 p7
  replace hP := hRn.2.2 _ _ _ (by omega) (by decide) hP
  replace hR := hR.trans hRn
  replace hW := Lib.hid hWn
  clear hRn hWn
  have p0 := hP.1.at 0 _ rfl
  have p1 := hP.1.at 1 _ rfl
  have p2 := hP.1.at 2 _ rfl
  have p3 := hP.1.at 3 _ rfl
  have p4 := hP.1.at 4 _ rfl
  have p5 := hP.1.at 5 _ rfl
  have p6 := hP.1.at 6 _ rfl
  have p7 := hP.1.at 7 _ rfl
  go_wp2_with fail
  clear p0 p1 p2 p3 p4 p5 p6 p7 hP
  go_loopw [28] (fun i wr => ∃ k : Nat, k ≤ ts.length ∧ i = .int .i64 k ∧ WrAt wr b (l0 ++ (tk 1 word :: headT (showT n) (ts.take k))) ∧ Wrote b w wr) (fun i _ => ts.length - (intOf i).toNat)
  case atStart => exact ⟨0, Nat.zero_le _, rfl, by simpa [headT] using hW.out, hR⟩
  case round =>
    clear hW hR
    obtain ⟨k, hk, rfl, hW, hR⟩ := hrel
    have hbw := hW.lt
    by_cases hlt : k < ts.length
    · obtain ⟨ad, cx, e1', hKx, hxx⟩ := r3.out.elem (kTest_sz n) k hlt
      obtain ⟨x0, x1, x2, X3, l3, C3, X4, l4, C4, x5, x6, X7, l7, C7, rfl⟩ := testN_K hKx.now
      subst e1'
      obtain ⟨hx0, hxj⟩ := hxx wr hR.1
      have q0 := hx0 _ rfl; have q1 := hxj 1 _ (by decide) rfl; have q2 := hxj 2 _ (by decide) rfl; have q3 := hxj 3 _ (by decide) rfl; have q4 := hxj 4 _ (by decide) rfl; have q5 := hxj 5 _ (by decide) rfl; have q6 := hxj 6 _ (by decide) rfl; have q7 := hxj 7 _ (by decide) rfl
      clear hx0 hxj hxx
      have hts := List.take_succ_eq_append_getElem hlt
      have hlk : (ts.take k).length = k := by rw [List.length_take]; omega
      have HX := Lib.hid (fun l0 W (h : Below b w W) hT hW hl => IH.out (ts[k]'hlt) _ (dp + 1) b l0 W (hKx.step h) (hc.out k hlt) hT hW hl)
      have hsum : ((ts.take k).map (wtT n)).sum + wtT n ts[k] ≤ (ts.map (wtT n)).sum := hst.out k hlt
      have hlen := hhl.out k
      have hsn : headT (showT n) (ts.take (k + 1)) = (headT (showT n) (ts.take k) ++ [tk 5 (if k = 0 then (⟨#[40]⟩ : ByteArray) else (⟨#[44]⟩ : ByteArray))]) ++ showT n ts[k] := by
        rw [hts]
        by_cases h0 : k = 0
        · subst h0; rw [if_pos rfl]; exact headT_first (showT n) _
        · rw [if_neg h0]; exact headT_snoc (showT n) (by omega) _
      have hlim2 := Lib.hid (show (headT (showT n) (ts.take k)).length + 8 * wtT n ts[k] ≤ 8 * (ts.map (wtT n)).sum by omega)
      replace hsn := Lib.hid hsn
      clear hts hlk hsum hlen hKx
      generalize showT n ts[k] = Sx at *
      generalize wtT n ts[k] = wt at *
      generalize headT (showT n) (ts.take k) = H at *
      have i0' : (0 : Int) ≤ (k : Int) := by omega
      have i1' : (k : Int) < (ts.length : Int) := by omega
      have hP : BlkT (wr.alloc (.cells #[.int .i64 x0, .int .i64 x1, .int .i64 x2, .slice X3 l3 C3, .slice X4 l4 C4, .bool x5, .int .i64 x6, .slice X7 l7 C7] 107)) wr.heap.size 107 [.int .i64 x0, .int .i64 x1, .int .i64 x2, .slice X3 l3 C3, .slice X4 l4 C4, .bool x5, .int .i64 x6, .slice X7 l7 C7] := BlkT.made wr _ _
      have hPx := hP.alloc (.cells #[.string (⟨#[44]⟩ : ByteArray), .string (⟨#[40]⟩ : ByteArray)] 9)
      have hsz : (wr.alloc (.cells #[.int .i64 x0, .int .i64 x1, .int .i64 x2, .slice X3 l3 C3, .slice X4 l4 C4, .bool x5, .int .i64 x6, .slice X7 l7 C7] 107)).heap.size = wr.heap.size + 1 := by simp
      have hO : Blk ((wr.alloc (.cells #[.int .i64 x0, .int .i64 x1, .int .i64 x2, .slice X3 l3 C3, .slice X4 l4 C4, .bool x5, .int .i64 x6, .slice X7 l7 C7] 107)).alloc (.cells #[.string (⟨#[44]⟩ : ByteArray), .string (⟨#[40]⟩ : ByteArray)] 9)) (wr.heap.size + 1) [.string (⟨#[44]⟩ : ByteArray), .string (⟨#[40]⟩ : ByteArray)] := Blk.made_at _ _ _ hsz
      have o0 := hO.at 0 _ rfl
      have o1 := hO.at 1 _ rfl
      have hW2 := hW.below (((Below.refl _ _).alloc (Nat.le_refl _) (.cells #[.int .i64 x0, .int .i64 x1, .int .i64 x2, .slice X3 l3 C3, .slice X4 l4 C4, .bool x5, .int .i64 x6, .slice X7 l7 C7] 107)).alloc (by simp) (.cells #[.string (⟨#[44]⟩ : ByteArray), .string (⟨#[40]⟩ : ByteArray)] 9))
      have hR2 := (hR.alloc (Nat.le_of_lt hbw) (.cells #[.int .i64 x0, .int .i64 x1, .int .i64 x2, .slice X3 l3 C3, .slice X4 l4 C4, .bool x5, .int .i64 x6, .slice X7 l7 C7] 107)).alloc (by simp; omega) (.cells #[.string (⟨#[44]⟩ : ByteArray), .string (⟨#[40]⟩ : ByteArray)] 9)
      clear hW hR hP hO hsz
      by_cases h0 : k = 0
      · have k0b : ((k : Int) == 0) = true := by rw [beq_iff_eq]; omega
        have ez : ad.add (k * 8) = ad := by subst h0; simp [Addr.add]
        have hs2 := Lib.hid (show headT (showT n) (ts.take (k + 1)) = (H ++ [tk 5 (⟨#[40]⟩ : ByteArray)]) ++ Sx by have := hsn.out; rw [if_pos h0] at this; exact this)
        clear h0 ez
        replace hW2 := Lib.hid hW2
        go_wp2_with (go_at_call 163; refine (flag_calls _ _).mono ?_; rintro e w' ⟨rfl, rfl⟩)
        refine (HP.out _ 5 (⟨#[40]⟩ : ByteArray) _ hW2.out (by have := hlim.out; have := hlim2.out; simp only [List.length_append, List.length_cons]; omega)).mono ?_
        rintro e w3 ⟨rfl, hW3, hR3⟩
        have hP3 := hR3.2.2 _ _ _ (by omega) (by decide) hPx
        have hR23 := hR2.trans hR3
        replace hW3 := Lib.hid hW3
        clear hR3 hPx o0 o1 q0 q1 q2 q3 q4 q5 q6 q7
        have p0 := hP3.1.at 0 _ rfl
        have p1 := hP3.1.at 1 _ rfl
        have p2 := hP3.1.at 2 _ rfl
        have p3 := hP3.1.at 3 _ rfl
        have p4 := hP3.1.at 4 _ rfl
        have p5 := hP3.1.at 5 _ rfl
        have p6 := hP3.1.at 6 _ rfl
        have p7 := hP3.1.at 7 _ rfl
        go_wp2_with fail
        refine (HX.out _ _ hR23.1 (hT.out.step hR23.1) hW3.out (by have := hlim.out; have := hlim2.out; simp only [List.length_append, List.length_cons, List.length_nil]; omega)).mono ?_
        rintro e w4 ⟨rfl, hW4, hR4⟩
        replace hW4 := Lib.hid hW4
        go_wp2_with fail
        go_roundw
        case rel => exact ⟨k + 1, hlt, by go_num, by rw [hs2.out]; simpa using hW4.out, hR23.trans hR4⟩
        case measure => simp [intOf]; omega
      · have k0b : ((k : Int) == 0) = false := by rw [beq_eq_false_iff_ne]; omega
        have hs2 := Lib.hid (show headT (showT n) (ts.take (k + 1)) = (H ++ [tk 5 (⟨#[44]⟩ : ByteArray)]) ++ Sx by have := hsn.out; rw [if_neg h0] at this; exact this)
        clear h0
        replace hW2 := Lib.hid hW2
        go_wp2_with (go_at_call 163; refine (flag_calls _ _).mono ?_; rintro e w' ⟨rfl, rfl⟩)
        refine (HP.out _ 5 (⟨#[44]⟩ : ByteArray) _ hW2.out (by have := hlim.out; have := hlim2.out; simp only [List.length_append, List.length_cons]; omega)).mono ?_
        rintro e w3 ⟨rfl, hW3, hR3⟩
        have hP3 := hR3.2.2 _ _ _ (by omega) (by decide) hPx
        have hR23 := hR2.trans hR3
        replace hW3 := Lib.hid hW3
        clear hR3 hPx o0 o1 q0 q1 q2 q3 q4 q5 q6 q7
        have p0 := hP3.1.at 0 _ rfl
        have p1 := hP3.1.at 1 _ rfl
        have p2 := hP3.1.at 2 _ rfl
        have p3 := hP3.1.at 3 _ rfl
        have p4 := hP3.1.at 4 _ rfl
        have p5 := hP3.1.at 5 _ rfl
        have p6 := hP3.1.at 6 _ rfl
        have p7 := hP3.1.at 7 _ rfl
        go_wp2_with fail
        refine (HX.out _ _ hR23.1 (hT.out.step hR23.1) hW3.out (by have := hlim.out; have := hlim2.out; simp only [List.length_append, List.length_cons, List.length_nil]; omega)).mono ?_
        rintro e w4 ⟨rfl, hW4, hR4⟩
        replace hW4 := Lib.hid hW4
        go_wp2_with fail
        go_roundw
        case rel => exact ⟨k + 1, hlt, by go_num, by rw [hs2.out]; simpa using hW4.out, hR23.trans hR4⟩
        case measure => simp [intOf]; omega
    · obtain rfl : k = ts.length := by omega
      rw [List.take_length] at hW
      have i1' : ¬ (ts.length : Int) < (ts.length : Int) := by omega
      have HQ := Lib.hid (HP.out _ 5 (⟨#[41]⟩ : ByteArray) wr hW (by have := hlim.out; have := hhf.out; simp only [List.length_append, List.length_cons]; omega))
      clear hW
      go_wp2_with fail
      refine HQ.out.mono ?_
      rintro e w2 ⟨rfl, hW2, hR2⟩
      replace hW2 := Lib.hid hW2
      replace hR := hR.trans hR2
      go_wp2_with fail
      go_end0
      exact ⟨rfl, by simpa using hW2.out, hR⟩
end Go.Proofs.YtijdghplfhfpaaaDoor.H

/- Scripts: the reference's test shown: not; many. -/
namespace Go.Proofs.YtijdghplfhfpaaaDoor.H
open Go.RowKit Go.Proofs.YtijdghplfhfpaaaDoorW.PrintWords Go.Proofs.YtijdghplfhfpaaaDoorW.PrintLast Go.Proofs.YtijdghplfhfpaaaDoor.U
set_option linter.unusedVariables false
set_option linter.unusedSimpArgs false
set_option maxHeartbeats 1000000 in
set_option maxRecDepth 100000 in
theorem st_N (n : Nat) (A1 : Option Addr) (c1 : Nat) (A2 : Option Addr) (c2 : Nat) (A3 : Option Addr) (c3 : Nat) (kd mt pt : Int) (nm ks : List ByteArray) (ov : Bool) (lm : Int) (ts : List (TestN n)) (w : World) (k1 : 3 ≤ kd) (k2 : kd ≤ 3) (IH : StT n) (dp : Int) (h1 : 0 < ts.length) (hc : checkT n (ts[0]'h1) (dp + 1) = 0) (r3 : (kTest n).C w A3 ts.length ts) (hlim : wtT n (ts[0]'h1) ≤ 1048576) :
    Calls Tryd.prog 168 #[.agg #[.int .i64 kd, .int .i64 mt, .int .i64 pt, .slice A1 nm.length c1, .slice A2 ks.length c2, .bool ov, .int .i64 lm, .slice A3 ts.length c3]] w fun e w' => ∃ v, e = .returned v ∧ Kd.R kAToken 119 w' w.heap.size (fun _ => True) v (tk 1 (wordAt testWords kd) :: showT n (ts[0]'h1)) ∧ Below w.heap.size w w' := by
  have b3 : (kd == 3) = true := by rw [beq_iff_eq]; omega
  have j0 : (0 : Int) < (ts.length : Int) := by omega
  obtain ⟨ad, cx, e1', hKx, hx0, hxj⟩ := elem_at r3 (kTest_sz n) 0 h1
  obtain ⟨x0, x1, x2, X3, l3, C3, X4, l4, C4, x5, x6, X7, l7, C7, rfl⟩ := testN_K hKx
  have ez : ad.add (0 * 8) = ad := by simp [Addr.add]
  rw [ez] at hx0 hxj
  have FF := Lib.hid (fun W (h : Below w.heap.size w W) => And.intro (pw_cell_below h (hx0 _ rfl)) (And.intro (pw_cell_below h (hxj 1 _ (by decide) rfl)) (And.intro (pw_cell_below h (hxj 2 _ (by decide) rfl)) (And.intro (pw_cell_below h (hxj 3 _ (by decide) rfl)) (And.intro (pw_cell_below h (hxj 4 _ (by decide) rfl)) (And.intro (pw_cell_below h (hxj 5 _ (by decide) rfl)) (And.intro (pw_cell_below h (hxj 6 _ (by decide) rfl)) (pw_cell_below h (hxj 7 _ (by decide) rfl)))))))))
  have HX := Lib.hid (fun W (h : Below w.heap.size w W) => IH (ts[0]'h1) _ (dp + 1) W ((kTest n).K_below h hKx) hc hlim)
  have hlen := Lib.hid (showT_len n (ts[0]'h1))
  generalize showT n (ts[0]'h1) = R at *
  generalize wtT n (ts[0]'h1) = wt at *
  replace e1' := Lib.hid e1'
  replace hlim := Lib.hid hlim
  clear hx0 hxj hKx ez r3 hc IH h1
  have HK := Lib.hid (fun k s w => tok_calls k s w)
  have HW := Lib.hid (fun w => testWord_calls kd w (by omega) (by omega))
  have hP0 : BlkT (w.alloc (.cells #[.int .i64 kd, .int .i64 mt, .int .i64 pt, .slice A1 nm.length c1, .slice A2 ks.length c2, .bool ov, .int .i64 lm, .slice A3 ts.length c3] 107)) w.heap.size 107 [.int .i64 kd, .int .i64 mt, .int .i64 pt, .slice A1 nm.length c1, .slice A2 ks.length c2, .bool ov, .int .i64 lm, .slice A3 ts.length c3] := BlkT.made w _ _
  have hB0 : Below w.heap.size w (w.alloc (.cells #[.int .i64 kd, .int .i64 mt, .int .i64 pt, .slice A1 nm.length c1, .slice A2 ks.length c2, .bool ov, .int .i64 lm, .slice A3 ts.length c3] 107)) := (Below.refl _ _).alloc (Nat.le_refl _) _
  have p0 := (hP0.1).at 0 _ rfl
  have p1 := (hP0.1).at 1 _ rfl
  have p2 := (hP0.1).at 2 _ rfl
  have p3 := (hP0.1).at 3 _ rfl
  have p4 := (hP0.1).at 4 _ rfl
  have p5 := (hP0.1).at 5 _ rfl
  have p6 := (hP0.1).at 6 _ rfl
  have p7 := (hP0.1).at 7 _ rfl
  have pl := (hP0.1).lt
  generalize wordAt testWords kd = word at *
  go_enter Tryd.func168, Tryd.ntmps168
  go_wp2_with fail
  refine (HW.out _).mono ?_
  rintro e w1 ⟨rfl, hb1⟩
  have hP1 := hP0.below hb1 hP0.1.lt
  have hB1 := hB0.trans (hb1.mono hB0.size)
  clear p0 p1 p2 p3 p4 p5 p6 p7 pl hP0 hB0 hb1
  go_wp2_with fail
  refine (HK.out 1 word _).mono ?_
  rintro e w2 ⟨rfl, hb2⟩
  have hP := (hP1.below hb2 hP1.1.lt).alloc (.cells #[.int .i64 1, .string word, .int .i64 0] 119)
  have hB2 : Below w.heap.size w w2 := hB1.trans (hb2.mono hB1.size)
  have hR := Kd.R_lower (lit_tok w2 (tk 1 word)) hB2.size
  have hB := hB2.alloc hB2.size (.cells #[.int .i64 1, .string word, .int .i64 0] 119)
  clear hP1 hB1 hb2 hB2
  have p0 := (hP.1).at 0 _ rfl
  have p1 := (hP.1).at 1 _ rfl
  have p2 := (hP.1).at 2 _ rfl
  have p3 := (hP.1).at 3 _ rfl
  have p4 := (hP.1).at 4 _ rfl
  have p5 := (hP.1).at 5 _ rfl
  have p6 := (hP.1).at 6 _ rfl
  have p7 := (hP.1).at 7 _ rfl
  have pl := (hP.1).lt
  have e2 := e1'.out
  subst e2
  clear e1'
  obtain ⟨q0, q1, q2, q3, q4, q5, q6, q7⟩ := FF.out _ hB
  go_wp2_with fail
  refine (HX.out _ hB).mono ?_
  rintro e wa ⟨vL, rfl, hRL, hba⟩
  obtain ⟨AL, cL, rfl, hcL, hCL⟩ := C_of hRL
  replace hR := Kd.R_below hR hba
  replace hB := hB.trans (hba.mono hB.size)
  clear q0 q1 q2 q3 q4 q5 q6 q7 p0 p1 p2 p3 p4 p5 p6 p7 pl hba hRL
  have hzB := hB.size
  go_wp2_with (at_builtin; refine rows_list rowAToken w.heap.size rfl _ _ rfl (.slice (some ⟨w2.heap.size, 0, none⟩) 1 1) [tk 1 word] R AL cL (by first | rfl | (simp [Act.eval]; done)) (by first | rfl | (simp [Act.eval]; done)) hR hCL (by omega) (by have := hlim.out; have := hlen.out; simp only [List.length_cons, List.length_nil]; omega) ?_)
  intro v5 w5 hRn hbn hgn
  go_wp2_with fail
  go_ret
  exact ⟨_, rfl, by simpa using hRn, hB.trans hbn⟩
end Go.Proofs.YtijdghplfhfpaaaDoor.H

/- Scripts: the reference's test shown: many. -/
namespace Go.Proofs.YtijdghplfhfpaaaDoor.H
open Go.RowKit Go.Proofs.YtijdghplfhfpaaaDoorW.PrintWords Go.Proofs.YtijdghplfhfpaaaDoorW.PrintLast Go.Proofs.YtijdghplfhfpaaaDoor.U
set_option linter.unusedVariables false
set_option linter.unusedSimpArgs false
def hdT {α : Type} (f : α → List AToken) : List α → List AToken
  | [] => [tk 5 (⟨#[40]⟩ : ByteArray)]
  | x :: l => headT f (x :: l)
theorem hdT_first {α : Type} (f : α → List AToken) (x : α) : hdT f ([] ++ [x]) = hdT f [] ++ f x := by simp [hdT, headT, restT]
theorem hdT_snoc {α : Type} (f : α → List AToken) {l : List α} (h : 0 < l.length) (x : α) : hdT f (l ++ [x]) = (hdT f l ++ [tk 5 (⟨#[44]⟩ : ByteArray)]) ++ f x := by
  cases l with
  | nil => simp at h
  | cons y l => exact headT_snoc f h x
theorem hdT_len {α : Type} (f : α → List AToken) (wt : α → Nat) (hf : ∀ x, (f x).length + 1 ≤ 8 * wt x) (l : List α) : (hdT f l).length ≤ 8 * (l.map wt).sum + 1 := by
  cases l with
  | nil => simp [hdT]
  | cons y l => have := headT_len f wt hf (y :: l); simp only [hdT]; omega
theorem hdT_all {α : Type} (f : α → List AToken) {l : List α} (h : 0 < l.length) : hdT f l = headT f l := by
  cases l with
  | nil => simp at h
  | cons y l => rfl
set_option maxHeartbeats 2000000 in
set_option maxRecDepth 100000 in
theorem st_L (n : Nat) (A1 : Option Addr) (c1 : Nat) (A2 : Option Addr) (c2 : Nat) (A3 : Option Addr) (c3 : Nat) (kd mt pt : Int) (nm ks : List ByteArray) (ov : Bool) (lm : Int) (ts : List (TestN n)) (w : World) (k1 : 4 ≤ kd) (k2 : kd ≤ 5) (IH : StT n) (dp : Int) (h1 : 0 < ts.length) (hc : errs (fun x => checkT n x (dp + 1)) ts = 0) (r3 : (kTest n).C w A3 ts.length ts) (hsumle : (ts.map (wtT n)).sum ≤ 1048576) :
    Calls Tryd.prog 168 #[.agg #[.int .i64 kd, .int .i64 mt, .int .i64 pt, .slice A1 nm.length c1, .slice A2 ks.length c2, .bool ov, .int .i64 lm, .slice A3 ts.length c3]] w fun e w' => ∃ v, e = .returned v ∧ Kd.R kAToken 119 w' w.heap.size (fun _ => True) v (tk 1 (wordAt testWords kd) :: (headT (showT n) ts ++ [tk 5 (⟨#[41]⟩ : ByteArray)])) ∧ Below w.heap.size w w' := by
  have b3 : (kd == 3) = false := by rw [beq_eq_false_iff_ne]; omega
  have j0 : (0 : Int) < (ts.length : Int) := by omega
  have j00 : 0 < ts.length := h1
  have h63 := r3.2.1
  have hall := Lib.hid (hdT_all (showT n) h1)
  have hst := Lib.hid (sum_take (wtT n) ts)
  have hhl := Lib.hid (fun k => hdT_len (showT n) (wtT n) (showT_len n) (ts.take k))
  have hhf := Lib.hid (hdT_len (showT n) (wtT n) (showT_len n) ts)
  have hsl := Lib.hid (fun x => showT_len n x)
  replace hc := Lib.hid (fun k hk => errs_all hc k hk)
  replace IH := Lib.hid IH
  replace r3 := Lib.hid r3
  have hlim := Lib.hid hsumle
  clear h1 hsumle
  have HK := Lib.hid (fun k s w => tok_calls k s w)
  have HW := Lib.hid (fun w => testWord_calls kd w (by omega) (by omega))
  have hP0 : BlkT (w.alloc (.cells #[.int .i64 kd, .int .i64 mt, .int .i64 pt, .slice A1 nm.length c1, .slice A2 ks.length c2, .bool ov, .int .i64 lm, .slice A3 ts.length c3] 107)) w.heap.size 107 [.int .i64 kd, .int .i64 mt, .int .i64 pt, .slice A1 nm.length c1, .slice A2 ks.length c2, .bool ov, .int .i64 lm, .slice A3 ts.length c3] := BlkT.made w _ _
  have hB0 : Below w.heap.size w (w.alloc (.cells #[.int .i64 kd, .int .i64 mt, .int .i64 pt, .slice A1 nm.length c1, .slice A2 ks.length c2, .bool ov, .int .i64 lm, .slice A3 ts.length c3] 107)) := (Below.refl _ _).alloc (Nat.le_refl _) _
  have p0 := (hP0.1).at 0 _ rfl
  have p1 := (hP0.1).at 1 _ rfl
  have p2 := (hP0.1).at 2 _ rfl
  have p3 := (hP0.1).at 3 _ rfl
  have p4 := (hP0.1).at 4 _ rfl
  have p5 := (hP0.1).at 5 _ rfl
  have p6 := (hP0.1).at 6 _ rfl
  have p7 := (hP0.1).at 7 _ rfl
  have pl := (hP0.1).lt
  generalize wordAt testWords kd = word at *
  go_enter Tryd.func168, Tryd.ntmps168
  go_wp2_with fail
  refine (HW.out _).mono ?_
  rintro e w1 ⟨rfl, hb1⟩
  have hP1 := hP0.below hb1 hP0.1.lt
  have hB1 := hB0.trans (hb1.mono hB0.size)
  clear p0 p1 p2 p3 p4 p5 p6 p7 pl hP0 hB0 hb1
  go_wp2_with fail
  refine (HK.out 1 word _).mono ?_
  rintro e w2 ⟨rfl, hb2⟩
  have hP := (hP1.below hb2 hP1.1.lt).alloc (.cells #[.int .i64 1, .string word, .int .i64 0] 119)
  have hB2 : Below w.heap.size w w2 := hB1.trans (hb2.mono hB1.size)
  have hR := Kd.R_lower (lit_tok w2 (tk 1 word)) hB2.size
  have hB := hB2.alloc hB2.size (.cells #[.int .i64 1, .string word, .int .i64 0] 119)
  clear hP1 hB1 hb2 hB2
  have p0 := (hP.1).at 0 _ rfl
  have p1 := (hP.1).at 1 _ rfl
  have p2 := (hP.1).at 2 _ rfl
  have p3 := (hP.1).at 3 _ rfl
  have p4 := (hP.1).at 4 _ rfl
  have p5 := (hP.1).at 5 _ rfl
  have p6 := (hP.1).at 6 _ rfl
  have p7 := (hP.1).at 7 _ rfl
  have pl := (hP.1).lt
  go_wp2_with fail
  refine (HK.out 5 (⟨#[40]⟩ : ByteArray) _).mono ?_
  rintro e w3 ⟨rfl, hb3⟩
  replace hP := hP.below hb3 hP.1.lt
  replace hR := Kd.R_below hR hb3
  replace hB := hB.trans (hb3.mono hB.size)
  have hzB := hB.size
  clear hb3 p0 p1 p2 p3 p4 p5 p6 p7 pl
  go_wp2_with (at_builtin; refine snoc_list rowAToken w.heap.size rfl _ _ rfl (.slice (some ⟨w2.heap.size, 0, none⟩) 1 1) [tk 1 word] (tk 5 (⟨#[40]⟩ : ByteArray)) [.int .i64 5, .string (⟨#[40]⟩ : ByteArray), .int .i64 0] (by first | rfl | (simp [Act.eval]; done)) (by first | rfl | (simp [Act.eval]; done)) rfl hR (by omega) (by have := hlim.out; simp only [List.length_append, List.length_cons, List.length_nil]; omega) ?_)
  intro v4 w4 hRn hbn hgn
  have hP4 := hP.row hR hgn (by decide)
  have hB4 : Below w.heap.size w w4 := hB.trans hbn
  clear hP hR hB hbn hgn hzB
  have p0 := (hP4.1).at 0 _ rfl
  have p1 := (hP4.1).at 1 _ rfl
  have p2 := (hP4.1).at 2 _ rfl
  have p3 := (hP4.1).at 3 _ rfl
  have p4 := (hP4.1).at 4 _ rfl
  have p5 := (hP4.1).at 5 _ rfl
  have p6 := (hP4.1).at 6 _ rfl
  have p7 := (hP4.1).at 7 _ rfl
  have pl := (hP4.1).lt
  go_wp2_with fail
  go_loopw [3, 4] (fun v i wr => ∃ k : Nat, k ≤ ts.length ∧ i = .int .i64 k ∧ Kd.R kAToken 119 wr w.heap.size (fun _ => True) v (tk 1 word :: hdT (showT n) (ts.take k)) ∧ BlkT wr w.heap.size 107 [.int .i64 kd, .int .i64 mt, .int .i64 pt, .slice A1 nm.length c1, .slice A2 ks.length c2, .bool ov, .int .i64 lm, .slice A3 ts.length c3] ∧ Below w.heap.size w wr) (fun _ i _ => ts.length - (intOf i).toNat)
  case atStart => exact ⟨0, Nat.zero_le _, rfl, by simpa [hdT] using hRn, hP4, hB4⟩
  case round =>
    clear hRn hP4 hB4 p0 p1 p2 p3 p4 p5 p6 p7 pl
    obtain ⟨k, hk, rfl, hR, hP, hB⟩ := hrel
    have hzB := hB.size
    have p0 := (hP.1).at 0 _ rfl
    have p1 := (hP.1).at 1 _ rfl
    have p2 := (hP.1).at 2 _ rfl
    have p3 := (hP.1).at 3 _ rfl
    have p4 := (hP.1).at 4 _ rfl
    have p5 := (hP.1).at 5 _ rfl
    have p6 := (hP.1).at 6 _ rfl
    have p7 := (hP.1).at 7 _ rfl
    have pl := (hP.1).lt
    by_cases hlt : k < ts.length
    · obtain ⟨ad, cx, e1', hKx, hx0, hxj⟩ := elem_at r3.out (kTest_sz n) k hlt
      obtain ⟨x0, x1, x2, X3, l3, C3, X4, l4, C4, x5, x6, X7, l7, C7, rfl⟩ := testN_K hKx
      have FF := Lib.hid (fun W (h : Below w.heap.size w W) => And.intro (pw_cell_below h (hx0 _ rfl)) (And.intro (pw_cell_below h (hxj 1 _ (by decide) rfl)) (And.intro (pw_cell_below h (hxj 2 _ (by decide) rfl)) (And.intro (pw_cell_below h (hxj 3 _ (by decide) rfl)) (And.intro (pw_cell_below h (hxj 4 _ (by decide) rfl)) (And.intro (pw_cell_below h (hxj 5 _ (by decide) rfl)) (And.intro (pw_cell_below h (hxj 6 _ (by decide) rfl)) (pw_cell_below h (hxj 7 _ (by decide) rfl)))))))))
      have hsum : ((ts.take k).map (wtT n)).sum + wtT n ts[k] ≤ (ts.map (wtT n)).sum := hst.out k hlt
      have HX := Lib.hid (fun W (h : Below w.heap.size w W) => IH.out (ts[k]'hlt) _ (dp + 1) W ((kTest n).K_below h hKx) (hc.out k hlt) (by have := hlim.out; omega))
      have hts := List.take_succ_eq_append_getElem hlt
      have hlk : (ts.take k).length = k := by rw [List.length_take]; omega
      have hlen := hhl.out k
      have hlx := hsl.out (ts[k]'hlt)
      have hsn : hdT (showT n) (ts.take (k + 1)) = (hdT (showT n) (ts.take k) ++ (if k = 0 then [] else [tk 5 (⟨#[44]⟩ : ByteArray)])) ++ showT n ts[k] := by
        rw [hts]
        by_cases h0 : k = 0
        · subst h0; rw [if_pos rfl, List.append_nil]; exact hdT_first (showT n) _
        · rw [if_neg h0]; exact hdT_snoc (showT n) (by omega) _
      have hlim2 := Lib.hid (show (hdT (showT n) (ts.take k)).length + (showT n ts[k]).length ≤ 8 * 1048576 + 1 by have := hlim.out; omega)
      replace hsn := Lib.hid hsn
      clear hx0 hxj hKx hts hlk hlen hlx hsum
      generalize showT n ts[k] = Sx at *
      generalize hdT (showT n) (ts.take k) = H at *
      subst e1'
      have i0' : (0 : Int) ≤ (k : Int) := by omega
      have i1' : (k : Int) < (ts.length : Int) := by omega
      by_cases h0 : k = 0
      · have hkb : ¬ (0 : Int) < (k : Int) := by omega
        have hs2 := Lib.hid (show hdT (showT n) (ts.take (k + 1)) = H ++ Sx by have := hsn.out; rw [if_pos h0, List.append_nil] at this; exact this)
        clear h0
        obtain ⟨q0, q1, q2, q3, q4, q5, q6, q7⟩ := FF.out _ hB
        go_wp2_with fail
        refine (HX.out _ hB).mono ?_
        rintro e wa ⟨vL, rfl, hRL, hba⟩
        obtain ⟨AL, cL, rfl, hcL, hCL⟩ := C_of hRL
        have hPa := hP.below hba hP.1.lt
        have hRa := Kd.R_below hR hba
        have hBa : Below w.heap.size w wa := hB.trans (hba.mono hB.size)
        clear q0 q1 q2 q3 q4 q5 q6 q7 p0 p1 p2 p3 p4 p5 p6 p7 pl hba hRL
        have hza := hBa.size
        go_wp2_with (at_builtin; refine rows_list rowAToken w.heap.size rfl _ _ rfl u3 (tk 1 word :: H) Sx AL cL (by first | rfl | (simp [Act.eval]; done)) (by first | rfl | (simp [Act.eval]; done)) hRa hCL (by omega) (by have := hlim2.out; simp only [List.length_cons]; omega) ?_)
        intro v5 w5 hR5 hb5 hg5
        have hP5 := hPa.row hRa hg5 (by decide)
        go_wp2_with fail
        go_roundw
        case rel => exact ⟨k + 1, hlt, by go_num, by rw [hs2.out]; exact hR5, hP5, hBa.trans hb5⟩
        case measure => simp [intOf]; omega
      · have hkb : (0 : Int) < (k : Int) := by omega
        have hs2 := Lib.hid (show hdT (showT n) (ts.take (k + 1)) = (H ++ [tk 5 (⟨#[44]⟩ : ByteArray)]) ++ Sx by have := hsn.out; rw [if_neg h0] at this; exact this)
        clear h0
        go_wp2_with fail
        refine (HK.out 5 (⟨#[44]⟩ : ByteArray) _).mono ?_
        rintro e w6 ⟨rfl, hb6⟩
        have hP6 := hP.below hb6 hP.1.lt
        have hR6 := Kd.R_below hR hb6
        have hB6 : Below w.heap.size w w6 := hB.trans (hb6.mono hB.size)
        have hz6 := hB6.size
        clear hb6 p0 p1 p2 p3 p4 p5 p6 p7 pl
        go_wp2_with (at_builtin; refine snoc_list rowAToken w.heap.size rfl _ _ rfl u3 (tk 1 word :: H) (tk 5 (⟨#[44]⟩ : ByteArray)) [.int .i64 5, .string (⟨#[44]⟩ : ByteArray), .int .i64 0] (by first | rfl | (simp [Act.eval]; done)) (by first | rfl | (simp [Act.eval]; done)) rfl hR6 (by omega) (by have := hlim2.out; simp only [List.length_cons]; omega) ?_)
        intro v7 w7 hR7 hb7 hg7
        have hP7 := hP6.row hR6 hg7 (by decide)
        have hB7 : Below w.heap.size w w7 := hB6.trans hb7
        have p0 := (hP7.1).at 0 _ rfl
        have p1 := (hP7.1).at 1 _ rfl
        have p2 := (hP7.1).at 2 _ rfl
        have p3 := (hP7.1).at 3 _ rfl
        have p4 := (hP7.1).at 4 _ rfl
        have p5 := (hP7.1).at 5 _ rfl
        have p6 := (hP7.1).at 6 _ rfl
        have p7 := (hP7.1).at 7 _ rfl
        have pl := (hP7.1).lt
        obtain ⟨q0, q1, q2, q3, q4, q5, q6, q7⟩ := FF.out _ hB7
        go_wp2_with fail
        refine (HX.out _ hB7).mono ?_
        rintro e wa ⟨vL, rfl, hRL, hba⟩
        obtain ⟨AL, cL, rfl, hcL, hCL⟩ := C_of hRL
        have hPa := hP7.below hba hP7.1.lt
        have hRa := Kd.R_below hR7 hba
        have hBa : Below w.heap.size w wa := hB7.trans (hba.mono hB7.size)
        clear q0 q1 q2 q3 q4 q5 q6 q7 p0 p1 p2 p3 p4 p5 p6 p7 pl hba hRL
        have hza := hBa.size
        go_wp2_with (at_builtin; refine rows_list rowAToken w.heap.size rfl _ _ rfl v7 ((tk 1 word :: H) ++ [tk 5 (⟨#[44]⟩ : ByteArray)]) Sx AL cL (by first | rfl | (simp [Act.eval]; done)) (by first | rfl | (simp [Act.eval]; done)) hRa hCL (by omega) (by have := hlim2.out; simp only [List.length_append, List.length_cons, List.length_nil]; omega) ?_)
        intro v5 w5 hR5 hb5 hg5
        have hP5 := hPa.row hRa hg5 (by decide)
        go_wp2_with fail
        go_roundw
        case rel => exact ⟨k + 1, hlt, by go_num, by rw [hs2.out]; simpa using hR5, hP5, hBa.trans hb5⟩
        case measure => simp [intOf]; omega
    · obtain rfl : k = ts.length := by omega
      rw [List.take_length] at hR
      have i1' : ¬ (ts.length : Int) < (ts.length : Int) := by omega
      go_wp2_with fail
      refine (HK.out 5 (⟨#[41]⟩ : ByteArray) _).mono ?_
      rintro e w6 ⟨rfl, hb6⟩
      have hR6 := Kd.R_below hR hb6
      have hB6 : Below w.heap.size w w6 := hB.trans (hb6.mono hB.size)
      have hz6 := hB6.size
      go_wp2_with (at_builtin; refine snoc_list rowAToken w.heap.size rfl _ _ rfl u3 (tk 1 word :: hdT (showT n) ts) (tk 5 (⟨#[41]⟩ : ByteArray)) [.int .i64 5, .string (⟨#[41]⟩ : ByteArray), .int .i64 0] (by first | rfl | (simp [Act.eval]; done)) (by first | rfl | (simp [Act.eval]; done)) rfl hR6 (by omega) (by have := hlim.out; have := hhf.out; simp only [List.length_cons]; omega) ?_)
      intro v7 w7 hR7 hb7 hg7
      rw [hall.out] at hR7
      go_wp2_with fail
      go_ret
      exact ⟨_, rfl, by simpa using hR7, hB6.trans hb7⟩
end Go.Proofs.YtijdghplfhfpaaaDoor.H

/- Scripts: the reference's test shown: a size. -/
namespace Go.Proofs.YtijdghplfhfpaaaDoor.H
open Go.RowKit Go.Proofs.YtijdghplfhfpaaaDoorW.PrintWords Go.Proofs.YtijdghplfhfpaaaDoorW.PrintLast Go.Proofs.YtijdghplfhfpaaaDoor.U
set_option linter.unusedVariables false
set_option linter.unusedSimpArgs false
theorem lit_two (W : World) (x y : AToken) : Kd.C kAToken (W.alloc (.cells #[.int .i64 x.kind, .string x.text, .int .i64 x.number, .int .i64 y.kind, .string y.text, .int .i64 y.number] 119)) (some ⟨W.heap.size, 0, none⟩) 2 [x, y] := by
  refine ⟨rfl, by decide, fun _ => ⟨_, rfl, fun j p hj => ?_⟩⟩
  match j, hj with
  | 0, hj =>
    cases hj
    refine ⟨[.int .i64 x.kind, .string x.text, .int .i64 x.number], rfl, rfl, fun i u hu => ?_⟩
    match i, hu with
    | 0, hu => cases hu; simp [kAToken, flatKd, Go.WideShapes.add_plain]
    | 1, hu => cases hu; simp [kAToken, flatKd, Go.WideShapes.add_plain]
    | 2, hu => cases hu; simp [kAToken, flatKd, Go.WideShapes.add_plain]
  | 1, hj =>
    cases hj
    refine ⟨[.int .i64 y.kind, .string y.text, .int .i64 y.number], rfl, rfl, fun i u hu => ?_⟩
    match i, hu with
    | 0, hu => cases hu; simp [kAToken, flatKd, Go.WideShapes.add_plain]
    | 1, hu => cases hu; simp [kAToken, flatKd, Go.WideShapes.add_plain]
    | 2, hu => cases hu; simp [kAToken, flatKd, Go.WideShapes.add_plain]
  | j + 2, hj => simp at hj
set_option maxHeartbeats 2000000 in
set_option maxRecDepth 100000 in
theorem st_S (n : Nat) (A1 : Option Addr) (c1 : Nat) (A2 : Option Addr) (c2 : Nat) (A3 : Option Addr) (c3 : Nat) (kd mt pt : Int) (nm ks : List ByteArray) (ov : Bool) (lm : Int) (ts : List (TestN n)) (w : World) (k1 : 10 ≤ kd) (k2 : kd ≤ 10) (h1 : nm.length = 0) (h2 : ks.length = 0) (h3 : mt = 0) (h4 : pt = 0) (h5 : ts.length = 0) : Calls Tryd.prog 168 #[.agg #[.int .i64 kd, .int .i64 mt, .int .i64 pt, .slice A1 nm.length c1, .slice A2 ks.length c2, .bool ov, .int .i64 lm, .slice A3 ts.length c3]] w fun e w' => ∃ v, e = .returned v ∧ Kd.R kAToken 119 w' w.heap.size (fun _ => True) v ([tk 1 (wordAt testWords kd)] ++ [tk 2 (if ov = true then (⟨#[111, 118, 101, 114]⟩ : ByteArray) else (⟨#[117, 110, 100, 101, 114]⟩ : ByteArray)), ⟨3, ⟨#[]⟩, lm⟩]) ∧ Below w.heap.size w w' := by
  have b3 : (kd == 3) = false := by rw [beq_eq_false_iff_ne]; omega
  have b10 : (kd == 10) = true := by rw [beq_iff_eq]; omega
  have j1 : ¬ (0 : Int) < (nm.length : Int) := by omega
  have j2 : ¬ (0 : Int) < (ks.length : Int) := by omega
  have j3 : ¬ (0 : Int) < mt := by omega
  have j4 : ¬ (0 : Int) < pt := by omega
  have j5 : ¬ (0 : Int) < (ts.length : Int) := by omega
  have j6 : ¬ 0 < nm.length := by omega
  have j7 : ¬ 0 < ks.length := by omega
  have j8 : ¬ 0 < ts.length := by omega
  clear h1 h2 h3 h4 h5
  by_cases ho : ov = true
  · rw [if_pos ho]
    replace ho := Lib.hid ho
    skip
    have HK := Lib.hid (fun k s w => tok_calls k s w)
    have HW := Lib.hid (fun w => testWord_calls kd w (by omega) (by omega))
    have hP0 : BlkT (w.alloc (.cells #[.int .i64 kd, .int .i64 mt, .int .i64 pt, .slice A1 nm.length c1, .slice A2 ks.length c2, .bool ov, .int .i64 lm, .slice A3 ts.length c3] 107)) w.heap.size 107 [.int .i64 kd, .int .i64 mt, .int .i64 pt, .slice A1 nm.length c1, .slice A2 ks.length c2, .bool ov, .int .i64 lm, .slice A3 ts.length c3] := BlkT.made w _ _
    have hB0 : Below w.heap.size w (w.alloc (.cells #[.int .i64 kd, .int .i64 mt, .int .i64 pt, .slice A1 nm.length c1, .slice A2 ks.length c2, .bool ov, .int .i64 lm, .slice A3 ts.length c3] 107)) := (Below.refl _ _).alloc (Nat.le_refl _) _
    have p0 := (hP0.1).at 0 _ rfl
    have p1 := (hP0.1).at 1 _ rfl
    have p2 := (hP0.1).at 2 _ rfl
    have p3 := (hP0.1).at 3 _ rfl
    have p4 := (hP0.1).at 4 _ rfl
    have p5 := (hP0.1).at 5 _ rfl
    have p6 := (hP0.1).at 6 _ rfl
    have p7 := (hP0.1).at 7 _ rfl
    have pl := (hP0.1).lt
    generalize wordAt testWords kd = word at *
    go_enter Tryd.func168, Tryd.ntmps168
    go_wp2_with fail
    refine (HW.out _).mono ?_
    rintro e w1 ⟨rfl, hb1⟩
    have hP1 := hP0.below hb1 hP0.1.lt
    have hB1 := hB0.trans (hb1.mono hB0.size)
    clear p0 p1 p2 p3 p4 p5 p6 p7 pl hP0 hB0 hb1
    go_wp2_with fail
    refine (HK.out 1 word _).mono ?_
    rintro e w2 ⟨rfl, hb2⟩
    have hP := (hP1.below hb2 hP1.1.lt).alloc (.cells #[.int .i64 1, .string word, .int .i64 0] 119)
    have hB2 : Below w.heap.size w w2 := hB1.trans (hb2.mono hB1.size)
    have hR := Kd.R_lower (lit_tok w2 (tk 1 word)) hB2.size
    have hB := hB2.alloc hB2.size (.cells #[.int .i64 1, .string word, .int .i64 0] 119)
    clear hP1 hB1 hb2 hB2
    have p0 := (hP.1).at 0 _ rfl
    have p1 := (hP.1).at 1 _ rfl
    have p2 := (hP.1).at 2 _ rfl
    have p3 := (hP.1).at 3 _ rfl
    have p4 := (hP.1).at 4 _ rfl
    have p5 := (hP.1).at 5 _ rfl
    have p6 := (hP.1).at 6 _ rfl
    have p7 := (hP.1).at 7 _ rfl
    have pl := (hP.1).lt
    have ho2 := ho.out
    subst ho2
    clear ho
    go_wp2_with fail
    refine wp_region_held_drew (S := fun w' => w'.cell? ⟨w.heap.size, 6, none⟩ = some (.int .i64 lm)) (by kernel_rfl) ?_ (fun hHeld => ?_)
    · exact hP.1.drew.at 6 _ rfl
    obtain ⟨V, hV⟩ : ∃ V : World, V = (w2.alloc (.cells #[.int .i64 1, .string word, .int .i64 0] 119)).drew := ⟨_, rfl⟩
    have hPd : BlkT V w.heap.size 107 [.int .i64 kd, .int .i64 mt, .int .i64 pt, .slice A1 nm.length c1, .slice A2 ks.length c2, .bool true, .int .i64 lm, .slice A3 ts.length c3] := by rw [hV]; exact hP.below (show Below (w2.alloc (.cells #[.int .i64 1, .string word, .int .i64 0] 119)).heap.size (w2.alloc (.cells #[.int .i64 1, .string word, .int .i64 0] 119)) (w2.alloc (.cells #[.int .i64 1, .string word, .int .i64 0] 119)).drew from below_drew1 (Below.refl _ _)) hP.1.lt
    have hRd : Kd.R kAToken 119 V w.heap.size (fun _ => True) (.slice (some ⟨w2.heap.size, 0, none⟩) 1 1) [tk 1 word] := by rw [hV]; exact Kd.R_drew hR
    have hBd : Below w.heap.size w V := by rw [hV]; exact below_drew1 hB
    rw [← hV] at hHeld ⊢
    replace hV := Lib.hid hV
    clear p0 p1 p2 p3 p4 p5 p6 p7 pl hP hR hB
    refine wpAnyH_take (i := 0) (oi := { dst := some 97, op := _, type := _, pos := _, after := _, guard := _ }) (v := .slice (some ⟨w2.heap.size, 0, none⟩) 1 1) rfl (by kernel_rfl) (by kernel_rfl) (by kernel_rfl) (fun _ _ _ h => h) (Or.inl ⟨by rfl, by (intro w hSw; (try dsimp only at hSw); first | (go_simp; done) | (go_simp; with_reducible rfl) | (go_simp; omega) | (go_simp; simp [*]; done))⟩) (by assumption) ?_; try simp only [Act.put, List.setIfInBounds_toArray, List.set_cons_zero, List.set_cons_succ]
    refine wpAnyH_take (i := 1) (oi := { dst := some 98, op := _, type := _, pos := _, after := _, guard := _ }) (v := .string (⟨#[111, 118, 101, 114]⟩ : ByteArray)) rfl (by kernel_rfl) (by kernel_rfl) (by kernel_rfl) (fun _ _ _ h => h) (Or.inl ⟨by rfl, by (intro w hSw; (try dsimp only at hSw); first | (go_simp; done) | (go_simp; with_reducible rfl) | (go_simp; omega) | (go_simp; simp [*]; done))⟩) (by assumption) ?_; try simp only [Act.put, List.setIfInBounds_toArray, List.set_cons_zero, List.set_cons_succ]
    refine wpAnyH_take (i := 3) (oi := { dst := some 100, op := _, type := _, pos := _, after := _, guard := _ }) (v := .pointer (some ⟨w.heap.size, 6, none⟩)) rfl (by kernel_rfl) (by kernel_rfl) (by kernel_rfl) (fun _ _ _ h => h) (Or.inl ⟨by rfl, by (intro w hSw; (try dsimp only at hSw); first | (go_simp; done) | (go_simp; with_reducible rfl) | (go_simp; omega) | (go_simp; simp [*]; done))⟩) (by assumption) ?_; try simp only [Act.put, List.setIfInBounds_toArray, List.set_cons_zero, List.set_cons_succ]
    refine wpAnyH_take (i := 4) (oi := { dst := some 101, op := _, type := _, pos := _, after := _, guard := _ }) (v := .int .i64 lm) rfl (by kernel_rfl) (by kernel_rfl) (by kernel_rfl) (fun _ _ _ h => h) (Or.inl ⟨by rfl, by (intro w hSw; (try dsimp only at hSw); first | (go_simp; done) | (go_simp; with_reducible rfl) | (go_simp; omega) | (go_simp; simp [*]; done))⟩) (by assumption) ?_; try simp only [Act.put, List.setIfInBounds_toArray, List.set_cons_zero, List.set_cons_succ]
    refine wpAnyH_take (i := 5) (oi := { dst := some 102, op := _, type := _, pos := _, after := _, guard := _ }) (v := .agg #[.int .i64 3, .string ⟨#[]⟩, .int .i64 lm]) rfl (by kernel_rfl) (by kernel_rfl) (by kernel_rfl) (fun _ _ _ h => h) (Or.inl ⟨by rfl, by (intro w hSw; (try dsimp only at hSw); first | (go_simp; done) | (go_simp; with_reducible rfl) | (go_simp; omega) | (go_simp; simp [*]; done))⟩) (by assumption) ?_; try simp only [Act.put, List.setIfInBounds_toArray, List.set_cons_zero, List.set_cons_succ]
    refine wpAnyH_ready (rs := [2]) (by kernel_rfl) (by simp) ?_
    refine AllReadyH.cons (o := { dst := some 99, op := _, type := _, pos := _, after := _, guard := _ }) rfl (fun K hK => ?_) AllReadyH.nil
    go_simp
    go_at_call 116
    refine (HK.out 2 (⟨#[111, 118, 101, 114]⟩ : ByteArray) _).mono ?_
    rintro e w3 ⟨rfl, hb3⟩
    have hP3 := hPd.below hb3 hPd.1.lt
    have hR3 := Kd.R_below hRd hb3
    have hB3 : Below w.heap.size w w3 := hBd.trans (hb3.mono hBd.size)
    have hz3 := hB3.size
    (try simp only [Result.andThen])
    refine hK.out _ _ (hP3.1.at 6 _ rfl) (fun hHeld => ?_)
    clear hK K
    refine wpAnyH_ready (rs := [6]) (by kernel_rfl) (by simp) ?_
    refine AllReadyH.cons (o := { dst := some 103, op := _, type := _, pos := _, after := _, guard := _ }) rfl (fun K hK => ?_) AllReadyH.nil
    go_simp
    have hC2 := lit_two w3 (tk 2 (⟨#[111, 118, 101, 114]⟩ : ByteArray)) ⟨3, ⟨#[]⟩, lm⟩
    have hP4 := hP3.alloc (.cells #[.int .i64 2, .string (⟨#[111, 118, 101, 114]⟩ : ByteArray), .int .i64 0, .int .i64 3, .string ⟨#[]⟩, .int .i64 lm] 119)
    have hR4 := Kd.R_below hR3 ((Below.refl _ _).alloc (Nat.le_refl _) (.cells #[.int .i64 2, .string (⟨#[111, 118, 101, 114]⟩ : ByteArray), .int .i64 0, .int .i64 3, .string ⟨#[]⟩, .int .i64 lm] 119))
    have hB4 := hB3.alloc hB3.size (.cells #[.int .i64 2, .string (⟨#[111, 118, 101, 114]⟩ : ByteArray), .int .i64 0, .int .i64 3, .string ⟨#[]⟩, .int .i64 lm] 119)
    have hz4 := hB4.size
    refine hK.out _ _ (hP4.1.at 6 _ rfl) (fun hHeld => ?_)
    clear hK K
    refine wpAnyH_ready (rs := [7]) (by kernel_rfl) (by simp) ?_
    refine AllReadyH.cons (o := { dst := some 104, op := _, type := _, pos := _, after := _, guard := _ }) rfl (fun K hK => ?_) AllReadyH.nil
    refine rows_step rowAToken w.heap.size (by rfl) (.tmp 97) (.tmp 103) (by rfl) (.slice (some ⟨w2.heap.size, 0, none⟩) 1 1) [tk 1 word] [tk 2 (⟨#[111, 118, 101, 114]⟩ : ByteArray), ⟨3, ⟨#[]⟩, lm⟩] (some ⟨w3.heap.size, 0, none⟩) 2 (by rfl) (by rfl) hR4 hC2 (by omega) (by simp) ?_
    intro v5 w5 hR5 hb5 hg5
    have hP5 := hP4.row hR4 hg5 (by decide)
    have hB5 : Below w.heap.size w w5 := hB4.trans hb5
    refine hK.out _ _ (hP5.1.at 6 _ rfl) (fun hHeld => ?_)
    clear hK K
    refine wpAnyH_take (i := 8) (oi := { dst := some 3, op := _, type := _, pos := _, after := _, guard := _ }) (v := v5) rfl (by kernel_rfl) (by kernel_rfl) (by kernel_rfl) (fun _ _ _ h => h) (Or.inl ⟨by rfl, by (intro w hSw; (try dsimp only at hSw); first | (go_simp; done) | (go_simp; with_reducible rfl) | (go_simp; omega) | (go_simp; simp [*]; done))⟩) (by assumption) ?_; try simp only [Act.put, List.setIfInBounds_toArray, List.set_cons_zero, List.set_cons_succ]
    refine wpAnyH_done (by kernel_rfl) ?_ _
    go_wp2_with fail
    go_ret
    exact ⟨_, rfl, hR5, hB5⟩
  · rw [if_neg ho]
    replace ho := Lib.hid (show ov = false by simpa using ho)
    skip
    have HK := Lib.hid (fun k s w => tok_calls k s w)
    have HW := Lib.hid (fun w => testWord_calls kd w (by omega) (by omega))
    have hP0 : BlkT (w.alloc (.cells #[.int .i64 kd, .int .i64 mt, .int .i64 pt, .slice A1 nm.length c1, .slice A2 ks.length c2, .bool ov, .int .i64 lm, .slice A3 ts.length c3] 107)) w.heap.size 107 [.int .i64 kd, .int .i64 mt, .int .i64 pt, .slice A1 nm.length c1, .slice A2 ks.length c2, .bool ov, .int .i64 lm, .slice A3 ts.length c3] := BlkT.made w _ _
    have hB0 : Below w.heap.size w (w.alloc (.cells #[.int .i64 kd, .int .i64 mt, .int .i64 pt, .slice A1 nm.length c1, .slice A2 ks.length c2, .bool ov, .int .i64 lm, .slice A3 ts.length c3] 107)) := (Below.refl _ _).alloc (Nat.le_refl _) _
    have p0 := (hP0.1).at 0 _ rfl
    have p1 := (hP0.1).at 1 _ rfl
    have p2 := (hP0.1).at 2 _ rfl
    have p3 := (hP0.1).at 3 _ rfl
    have p4 := (hP0.1).at 4 _ rfl
    have p5 := (hP0.1).at 5 _ rfl
    have p6 := (hP0.1).at 6 _ rfl
    have p7 := (hP0.1).at 7 _ rfl
    have pl := (hP0.1).lt
    generalize wordAt testWords kd = word at *
    go_enter Tryd.func168, Tryd.ntmps168
    go_wp2_with fail
    refine (HW.out _).mono ?_
    rintro e w1 ⟨rfl, hb1⟩
    have hP1 := hP0.below hb1 hP0.1.lt
    have hB1 := hB0.trans (hb1.mono hB0.size)
    clear p0 p1 p2 p3 p4 p5 p6 p7 pl hP0 hB0 hb1
    go_wp2_with fail
    refine (HK.out 1 word _).mono ?_
    rintro e w2 ⟨rfl, hb2⟩
    have hP := (hP1.below hb2 hP1.1.lt).alloc (.cells #[.int .i64 1, .string word, .int .i64 0] 119)
    have hB2 : Below w.heap.size w w2 := hB1.trans (hb2.mono hB1.size)
    have hR := Kd.R_lower (lit_tok w2 (tk 1 word)) hB2.size
    have hB := hB2.alloc hB2.size (.cells #[.int .i64 1, .string word, .int .i64 0] 119)
    clear hP1 hB1 hb2 hB2
    have p0 := (hP.1).at 0 _ rfl
    have p1 := (hP.1).at 1 _ rfl
    have p2 := (hP.1).at 2 _ rfl
    have p3 := (hP.1).at 3 _ rfl
    have p4 := (hP.1).at 4 _ rfl
    have p5 := (hP.1).at 5 _ rfl
    have p6 := (hP.1).at 6 _ rfl
    have p7 := (hP.1).at 7 _ rfl
    have pl := (hP.1).lt
    have ho2 := ho.out
    subst ho2
    clear ho
    go_wp2_with fail
    refine wp_region_held_drew (S := fun w' => w'.cell? ⟨w.heap.size, 6, none⟩ = some (.int .i64 lm)) (by kernel_rfl) ?_ (fun hHeld => ?_)
    · exact hP.1.drew.at 6 _ rfl
    obtain ⟨V, hV⟩ : ∃ V : World, V = (w2.alloc (.cells #[.int .i64 1, .string word, .int .i64 0] 119)).drew := ⟨_, rfl⟩
    have hPd : BlkT V w.heap.size 107 [.int .i64 kd, .int .i64 mt, .int .i64 pt, .slice A1 nm.length c1, .slice A2 ks.length c2, .bool false, .int .i64 lm, .slice A3 ts.length c3] := by rw [hV]; exact hP.below (show Below (w2.alloc (.cells #[.int .i64 1, .string word, .int .i64 0] 119)).heap.size (w2.alloc (.cells #[.int .i64 1, .string word, .int .i64 0] 119)) (w2.alloc (.cells #[.int .i64 1, .string word, .int .i64 0] 119)).drew from below_drew1 (Below.refl _ _)) hP.1.lt
    have hRd : Kd.R kAToken 119 V w.heap.size (fun _ => True) (.slice (some ⟨w2.heap.size, 0, none⟩) 1 1) [tk 1 word] := by rw [hV]; exact Kd.R_drew hR
    have hBd : Below w.heap.size w V := by rw [hV]; exact below_drew1 hB
    rw [← hV] at hHeld ⊢
    replace hV := Lib.hid hV
    clear p0 p1 p2 p3 p4 p5 p6 p7 pl hP hR hB
    refine wpAnyH_take (i := 0) (oi := { dst := some 97, op := _, type := _, pos := _, after := _, guard := _ }) (v := .slice (some ⟨w2.heap.size, 0, none⟩) 1 1) rfl (by kernel_rfl) (by kernel_rfl) (by kernel_rfl) (fun _ _ _ h => h) (Or.inl ⟨by rfl, by (intro w hSw; (try dsimp only at hSw); first | (go_simp; done) | (go_simp; with_reducible rfl) | (go_simp; omega) | (go_simp; simp [*]; done))⟩) (by assumption) ?_; try simp only [Act.put, List.setIfInBounds_toArray, List.set_cons_zero, List.set_cons_succ]
    refine wpAnyH_take (i := 1) (oi := { dst := some 98, op := _, type := _, pos := _, after := _, guard := _ }) (v := .string (⟨#[117, 110, 100, 101, 114]⟩ : ByteArray)) rfl (by kernel_rfl) (by kernel_rfl) (by kernel_rfl) (fun _ _ _ h => h) (Or.inl ⟨by rfl, by (intro w hSw; (try dsimp only at hSw); first | (go_simp; done) | (go_simp; with_reducible rfl) | (go_simp; omega) | (go_simp; simp [*]; done))⟩) (by assumption) ?_; try simp only [Act.put, List.setIfInBounds_toArray, List.set_cons_zero, List.set_cons_succ]
    refine wpAnyH_take (i := 3) (oi := { dst := some 100, op := _, type := _, pos := _, after := _, guard := _ }) (v := .pointer (some ⟨w.heap.size, 6, none⟩)) rfl (by kernel_rfl) (by kernel_rfl) (by kernel_rfl) (fun _ _ _ h => h) (Or.inl ⟨by rfl, by (intro w hSw; (try dsimp only at hSw); first | (go_simp; done) | (go_simp; with_reducible rfl) | (go_simp; omega) | (go_simp; simp [*]; done))⟩) (by assumption) ?_; try simp only [Act.put, List.setIfInBounds_toArray, List.set_cons_zero, List.set_cons_succ]
    refine wpAnyH_take (i := 4) (oi := { dst := some 101, op := _, type := _, pos := _, after := _, guard := _ }) (v := .int .i64 lm) rfl (by kernel_rfl) (by kernel_rfl) (by kernel_rfl) (fun _ _ _ h => h) (Or.inl ⟨by rfl, by (intro w hSw; (try dsimp only at hSw); first | (go_simp; done) | (go_simp; with_reducible rfl) | (go_simp; omega) | (go_simp; simp [*]; done))⟩) (by assumption) ?_; try simp only [Act.put, List.setIfInBounds_toArray, List.set_cons_zero, List.set_cons_succ]
    refine wpAnyH_take (i := 5) (oi := { dst := some 102, op := _, type := _, pos := _, after := _, guard := _ }) (v := .agg #[.int .i64 3, .string ⟨#[]⟩, .int .i64 lm]) rfl (by kernel_rfl) (by kernel_rfl) (by kernel_rfl) (fun _ _ _ h => h) (Or.inl ⟨by rfl, by (intro w hSw; (try dsimp only at hSw); first | (go_simp; done) | (go_simp; with_reducible rfl) | (go_simp; omega) | (go_simp; simp [*]; done))⟩) (by assumption) ?_; try simp only [Act.put, List.setIfInBounds_toArray, List.set_cons_zero, List.set_cons_succ]
    refine wpAnyH_ready (rs := [2]) (by kernel_rfl) (by simp) ?_
    refine AllReadyH.cons (o := { dst := some 99, op := _, type := _, pos := _, after := _, guard := _ }) rfl (fun K hK => ?_) AllReadyH.nil
    go_simp
    go_at_call 116
    refine (HK.out 2 (⟨#[117, 110, 100, 101, 114]⟩ : ByteArray) _).mono ?_
    rintro e w3 ⟨rfl, hb3⟩
    have hP3 := hPd.below hb3 hPd.1.lt
    have hR3 := Kd.R_below hRd hb3
    have hB3 : Below w.heap.size w w3 := hBd.trans (hb3.mono hBd.size)
    have hz3 := hB3.size
    (try simp only [Result.andThen])
    refine hK.out _ _ (hP3.1.at 6 _ rfl) (fun hHeld => ?_)
    clear hK K
    refine wpAnyH_ready (rs := [6]) (by kernel_rfl) (by simp) ?_
    refine AllReadyH.cons (o := { dst := some 103, op := _, type := _, pos := _, after := _, guard := _ }) rfl (fun K hK => ?_) AllReadyH.nil
    go_simp
    have hC2 := lit_two w3 (tk 2 (⟨#[117, 110, 100, 101, 114]⟩ : ByteArray)) ⟨3, ⟨#[]⟩, lm⟩
    have hP4 := hP3.alloc (.cells #[.int .i64 2, .string (⟨#[117, 110, 100, 101, 114]⟩ : ByteArray), .int .i64 0, .int .i64 3, .string ⟨#[]⟩, .int .i64 lm] 119)
    have hR4 := Kd.R_below hR3 ((Below.refl _ _).alloc (Nat.le_refl _) (.cells #[.int .i64 2, .string (⟨#[117, 110, 100, 101, 114]⟩ : ByteArray), .int .i64 0, .int .i64 3, .string ⟨#[]⟩, .int .i64 lm] 119))
    have hB4 := hB3.alloc hB3.size (.cells #[.int .i64 2, .string (⟨#[117, 110, 100, 101, 114]⟩ : ByteArray), .int .i64 0, .int .i64 3, .string ⟨#[]⟩, .int .i64 lm] 119)
    have hz4 := hB4.size
    refine hK.out _ _ (hP4.1.at 6 _ rfl) (fun hHeld => ?_)
    clear hK K
    refine wpAnyH_ready (rs := [7]) (by kernel_rfl) (by simp) ?_
    refine AllReadyH.cons (o := { dst := some 104, op := _, type := _, pos := _, after := _, guard := _ }) rfl (fun K hK => ?_) AllReadyH.nil
    refine rows_step rowAToken w.heap.size (by rfl) (.tmp 97) (.tmp 103) (by rfl) (.slice (some ⟨w2.heap.size, 0, none⟩) 1 1) [tk 1 word] [tk 2 (⟨#[117, 110, 100, 101, 114]⟩ : ByteArray), ⟨3, ⟨#[]⟩, lm⟩] (some ⟨w3.heap.size, 0, none⟩) 2 (by rfl) (by rfl) hR4 hC2 (by omega) (by simp) ?_
    intro v5 w5 hR5 hb5 hg5
    have hP5 := hP4.row hR4 hg5 (by decide)
    have hB5 : Below w.heap.size w w5 := hB4.trans hb5
    refine hK.out _ _ (hP5.1.at 6 _ rfl) (fun hHeld => ?_)
    clear hK K
    refine wpAnyH_take (i := 8) (oi := { dst := some 3, op := _, type := _, pos := _, after := _, guard := _ }) (v := v5) rfl (by kernel_rfl) (by kernel_rfl) (by kernel_rfl) (fun _ _ _ h => h) (Or.inl ⟨by rfl, by (intro w hSw; (try dsimp only at hSw); first | (go_simp; done) | (go_simp; with_reducible rfl) | (go_simp; omega) | (go_simp; simp [*]; done))⟩) (by assumption) ?_; try simp only [Act.put, List.setIfInBounds_toArray, List.set_cons_zero, List.set_cons_succ]
    refine wpAnyH_done (by kernel_rfl) ?_ _
    go_wp2_with fail
    go_ret
    exact ⟨_, rfl, hR5, hB5⟩
end Go.Proofs.YtijdghplfhfpaaaDoor.H

/- Scripts: the writer's test: more kinds. -/
namespace Go.Proofs.YtijdghplfhfpaaaDoor.H
open Go.RowKit Go.Proofs.YtijdghplfhfpaaaDoorW.PrintWords Go.Proofs.YtijdghplfhfpaaaDoorW.PrintLast Go.Proofs.YtijdghplfhfpaaaDoor.U
set_option linter.unusedVariables false
set_option linter.unusedSimpArgs false
set_option maxHeartbeats 1000000 in
set_option maxRecDepth 100000 in
theorem wt_D7 (n : Nat) (A1 : Option Addr) (c1 : Nat) (A2 : Option Addr) (c2 : Nat) (A3 : Option Addr) (c3 : Nat) (kd mt pt : Int) (nm ks : List ByteArray) (ov : Bool) (lm : Int) (ts : List (TestN n)) (b : Nat) (l0 : List AToken) (w : World) (hT : Tabs w b) (hW : WrAt w b l0) (k1 : 7 ≤ kd) (k2 : kd ≤ 7) (m1 : 1 ≤ mt) (m2 : mt ≤ 3) (q1 : 1 ≤ pt) (q2 : pt ≤ 3) (r1 : Und Kd.string w b A1 nm) (hn : 0 < nm.length) (r2 : Und Kd.string w b A2 ks) (hk : 0 < ks.length) (hlim : l0.length + 8 * (1 + nm.length + ks.length) ≤ 1073741824) : Calls Tryd.prog 161 #[.pointer (some ⟨b, 0, none⟩), .agg #[.int .i64 kd, .int .i64 mt, .int .i64 pt, .slice A1 nm.length c1, .slice A2 ks.length c2, .bool ov, .int .i64 lm, .slice A3 ts.length c3]] w (fun e w' => e = .returned (.tuple #[]) ∧ WrAt w' b (l0 ++ (tk 1 (wordAt testWords kd) :: tk 2 (wordAt partWords pt) :: tk 2 (wordAt matchWords mt) :: (strsV nm ++ strsV ks))) ∧ Wrote b w w') := by
  have b3 : (kd == 3) = false := by rw [beq_eq_false_iff_ne]; omega
  have b4 : (kd == 4) = false := by rw [beq_eq_false_iff_ne]; omega
  have b5 : (kd == 5) = false := by rw [beq_eq_false_iff_ne]; omega
  have b6 : (kd == 6) = false := by rw [beq_eq_false_iff_ne]; omega
  have b7 : (kd == 7) = true := by rw [beq_iff_eq]; omega
  have b8 : (kd == 8) = false := by rw [beq_eq_false_iff_ne]; omega
  have b9 : (kd == 9) = false := by rw [beq_eq_false_iff_ne]; omega
  have b10 : (kd == 10) = false := by rw [beq_eq_false_iff_ne]; omega
  have nk6 : (kd != 6) = true := by rw [bne_iff_ne]; omega
  replace hn := Lib.hid hn
  replace hk := Lib.hid hk
  replace r1 := Lib.hid r1
  replace r2 := Lib.hid r2
  obtain ⟨j, hj⟩ : ∃ j : Nat, mt = (j : Int) := ⟨mt.toNat, by omega⟩
  obtain ⟨i, hi⟩ : ∃ i : Nat, pt = (i : Int) := ⟨pt.toNat, by omega⟩
  have u0 : 0 ≤ mt := by omega
  have u1 : mt < 4 := by omega
  have ujn : mt.toNat = j := by omega
  have v0 : 0 ≤ pt := by omega
  have v1 : pt < 4 := by omega
  have vjn : pt.toNat = i := by omega
  have hjw := Lib.hid (fun W (h : Tabs W b) => by have := word_at h.2.2.1 j (by show j < 4; omega); rw [← hj] at this; exact this)
  have hiw := Lib.hid (fun W (h : Tabs W b) => by have := word_at h.2.1 i (by show i < 4; omega); rw [← hi] at this; exact this)
  clear m1 m2 hj q1 q2 hi
  have hbl := hW.lt
  have ha : Below b w (w.alloc (.cells #[.int .i64 kd, .int .i64 mt, .int .i64 pt, .slice A1 nm.length c1, .slice A2 ks.length c2, .bool ov, .int .i64 lm, .slice A3 ts.length c3] 107)) := (Below.refl _ _).alloc (Nat.le_of_lt hbl) _
  obtain ⟨k, hkd⟩ : ∃ k : Nat, kd = (k : Int) := ⟨kd.toNat, by omega⟩
  have hwd := word_at (hT.1.step ha) k (by show k < 11; omega)
  rw [← hkd] at hwd
  have i0 : 0 ≤ kd := by omega
  have i1 : kd < 11 := by omega
  have hkn : kd.toNat = k := by omega
  have hP : BlkT (w.alloc (.cells #[.int .i64 kd, .int .i64 mt, .int .i64 pt, .slice A1 nm.length c1, .slice A2 ks.length c2, .bool ov, .int .i64 lm, .slice A3 ts.length c3] 107)) w.heap.size 107 [.int .i64 kd, .int .i64 mt, .int .i64 pt, .slice A1 nm.length c1, .slice A2 ks.length c2, .bool ov, .int .i64 lm, .slice A3 ts.length c3] := BlkT.made w _ _
  have hR : Wrote b w (w.alloc (.cells #[.int .i64 kd, .int .i64 mt, .int .i64 pt, .slice A1 nm.length c1, .slice A2 ks.length c2, .bool ov, .int .i64 lm, .slice A3 ts.length c3] 107)) := (Wrote.refl b w).alloc (Nat.le_of_lt hbl) _
  have HP := Lib.hid (fun l k s w h hl => put_calls b l k s w h hl)
  have HL := Lib.hid (fun l0 A c l w h hr h0 hl => wlist_calls b l0 A c l w h hr h0 hl)
  replace hW := Lib.hid (hW.below ((Below.refl _ _).alloc (Nat.le_refl _) (.cells #[.int .i64 kd, .int .i64 mt, .int .i64 pt, .slice A1 nm.length c1, .slice A2 ks.length c2, .bool ov, .int .i64 lm, .slice A3 ts.length c3] 107)))
  generalize wordAt testWords kd = word at *
  have p0 := hP.1.at 0 _ rfl
  have p1 := hP.1.at 1 _ rfl
  have p2 := hP.1.at 2 _ rfl
  have p3 := hP.1.at 3 _ rfl
  have p4 := hP.1.at 4 _ rfl
  have p5 := hP.1.at 5 _ rfl
  have p6 := hP.1.at 6 _ rfl
  have p7 := hP.1.at 7 _ rfl
  clear hkd k1 k2
  replace hlim := Lib.hid hlim
  replace hT := Lib.hid hT
  go_enter Tryd.func161, Tryd.ntmps161
  go_wp2_with fail
  refine (HP.out _ 1 word _ hW.out (by have := hlim.out; (try simp only [List.length_append, List.length_cons, List.length_nil]); omega)).mono ?_
  rintro e w1 ⟨rfl, hWn, hRn⟩
  clear p0 p1 p2 p3 p4 p5 p6 p7
  replace hP := hRn.2.2 _ _ _ (by omega) (by decide) hP
  replace hR := hR.trans hRn
  replace hW := Lib.hid hWn
  clear hRn hWn
  have p0 := hP.1.at 0 _ rfl
  have p1 := hP.1.at 1 _ rfl
  have p2 := hP.1.at 2 _ rfl
  have p3 := hP.1.at 3 _ rfl
  have p4 := hP.1.at 4 _ rfl
  have p5 := hP.1.at 5 _ rfl
  have p6 := hP.1.at 6 _ rfl
  have p7 := hP.1.at 7 _ rfl
  have hq := hiw.out _ (hT.out.step hR.1)
  go_wp2_with fail
  refine (HP.out _ 2 (wordAt partWords pt) _ hW.out (by have := hlim.out; (try simp only [List.length_append, List.length_cons, List.length_nil]); omega)).mono ?_
  clear hq
  rintro e w2 ⟨rfl, hWn, hRn⟩
  clear p0 p1 p2 p3 p4 p5 p6 p7
  replace hP := hRn.2.2 _ _ _ (by omega) (by decide) hP
  replace hR := hR.trans hRn
  replace hW := Lib.hid hWn
  clear hRn hWn
  have p0 := hP.1.at 0 _ rfl
  have p1 := hP.1.at 1 _ rfl
  have p2 := hP.1.at 2 _ rfl
  have p3 := hP.1.at 3 _ rfl
  have p4 := hP.1.at 4 _ rfl
  have p5 := hP.1.at 5 _ rfl
  have p6 := hP.1.at 6 _ rfl
  have p7 := hP.1.at 7 _ rfl
  have hq := hjw.out _ (hT.out.step hR.1)
  go_wp2_with fail
  refine (HP.out _ 2 (wordAt matchWords mt) _ hW.out (by have := hlim.out; (try simp only [List.length_append, List.length_cons, List.length_nil]); omega)).mono ?_
  clear hq
  rintro e w3 ⟨rfl, hWn, hRn⟩
  clear p0 p1 p2 p3 p4 p5 p6 p7
  replace hP := hRn.2.2 _ _ _ (by omega) (by decide) hP
  replace hR := hR.trans hRn
  replace hW := Lib.hid hWn
  clear hRn hWn
  have p0 := hP.1.at 0 _ rfl
  have p1 := hP.1.at 1 _ rfl
  have p2 := hP.1.at 2 _ rfl
  have p3 := hP.1.at 3 _ rfl
  have p4 := hP.1.at 4 _ rfl
  have p5 := hP.1.at 5 _ rfl
  have p6 := hP.1.at 6 _ rfl
  have p7 := hP.1.at 7 _ rfl
  go_wp2_with fail
  refine (HL.out _ A1 c1 nm _ hW.out (r1.out.step hR.1) hn.out (by have := hlim.out; (try simp only [List.length_append, List.length_cons, List.length_nil]); omega)).mono ?_
  rintro e w4 ⟨rfl, hWn, hRn⟩
  clear p0 p1 p2 p3 p4 p5 p6 p7
  replace hP := hRn.2.2 _ _ _ (by omega) (by decide) hP
  replace hR := hR.trans hRn
  replace hW := Lib.hid hWn
  clear hRn hWn
  have p0 := hP.1.at 0 _ rfl
  have p1 := hP.1.at 1 _ rfl
  have p2 := hP.1.at 2 _ rfl
  have p3 := hP.1.at 3 _ rfl
  have p4 := hP.1.at 4 _ rfl
  have p5 := hP.1.at 5 _ rfl
  have p6 := hP.1.at 6 _ rfl
  have p7 := hP.1.at 7 _ rfl
  go_wp2_with fail
  refine (HL.out _ A2 c2 ks _ hW.out (r2.out.step hR.1) hk.out (by have := hlim.out; have := strs_len hn.out; simp only [List.length_append, List.length_cons, List.length_nil]; omega)).mono ?_
  rintro e w5 ⟨rfl, hWn, hRn⟩
  clear p0 p1 p2 p3 p4 p5 p6 p7
  replace hP := hRn.2.2 _ _ _ (by omega) (by decide) hP
  replace hR := hR.trans hRn
  replace hW := Lib.hid hWn
  clear hRn hWn
  have p0 := hP.1.at 0 _ rfl
  have p1 := hP.1.at 1 _ rfl
  have p2 := hP.1.at 2 _ rfl
  have p3 := hP.1.at 3 _ rfl
  have p4 := hP.1.at 4 _ rfl
  have p5 := hP.1.at 5 _ rfl
  have p6 := hP.1.at 6 _ rfl
  have p7 := hP.1.at 7 _ rfl
  go_wp2_with fail
  go_end0
  exact ⟨rfl, by simpa using hW.out, hR⟩
set_option maxHeartbeats 1000000 in
set_option maxRecDepth 100000 in
theorem wt_D8 (n : Nat) (A1 : Option Addr) (c1 : Nat) (A2 : Option Addr) (c2 : Nat) (A3 : Option Addr) (c3 : Nat) (kd mt pt : Int) (nm ks : List ByteArray) (ov : Bool) (lm : Int) (ts : List (TestN n)) (b : Nat) (l0 : List AToken) (w : World) (hT : Tabs w b) (hW : WrAt w b l0) (k1 : 8 ≤ kd) (k2 : kd ≤ 8) (m1 : 1 ≤ mt) (m2 : mt ≤ 3) (q1 : 1 ≤ pt) (q2 : pt ≤ 3) (r1 : Und Kd.string w b A1 nm) (hn : 0 < nm.length) (r2 : Und Kd.string w b A2 ks) (hk : 0 < ks.length) (hlim : l0.length + 8 * (1 + nm.length + ks.length) ≤ 1073741824) : Calls Tryd.prog 161 #[.pointer (some ⟨b, 0, none⟩), .agg #[.int .i64 kd, .int .i64 mt, .int .i64 pt, .slice A1 nm.length c1, .slice A2 ks.length c2, .bool ov, .int .i64 lm, .slice A3 ts.length c3]] w (fun e w' => e = .returned (.tuple #[]) ∧ WrAt w' b (l0 ++ (tk 1 (wordAt testWords kd) :: tk 2 (wordAt partWords pt) :: tk 2 (wordAt matchWords mt) :: (strsV nm ++ strsV ks))) ∧ Wrote b w w') := by
  have b3 : (kd == 3) = false := by rw [beq_eq_false_iff_ne]; omega
  have b4 : (kd == 4) = false := by rw [beq_eq_false_iff_ne]; omega
  have b5 : (kd == 5) = false := by rw [beq_eq_false_iff_ne]; omega
  have b6 : (kd == 6) = false := by rw [beq_eq_false_iff_ne]; omega
  have b7 : (kd == 7) = false := by rw [beq_eq_false_iff_ne]; omega
  have b8 : (kd == 8) = true := by rw [beq_iff_eq]; omega
  have b9 : (kd == 9) = false := by rw [beq_eq_false_iff_ne]; omega
  have b10 : (kd == 10) = false := by rw [beq_eq_false_iff_ne]; omega
  have nk6 : (kd != 6) = true := by rw [bne_iff_ne]; omega
  replace hn := Lib.hid hn
  replace hk := Lib.hid hk
  replace r1 := Lib.hid r1
  replace r2 := Lib.hid r2
  obtain ⟨j, hj⟩ : ∃ j : Nat, mt = (j : Int) := ⟨mt.toNat, by omega⟩
  obtain ⟨i, hi⟩ : ∃ i : Nat, pt = (i : Int) := ⟨pt.toNat, by omega⟩
  have u0 : 0 ≤ mt := by omega
  have u1 : mt < 4 := by omega
  have ujn : mt.toNat = j := by omega
  have v0 : 0 ≤ pt := by omega
  have v1 : pt < 4 := by omega
  have vjn : pt.toNat = i := by omega
  have hjw := Lib.hid (fun W (h : Tabs W b) => by have := word_at h.2.2.1 j (by show j < 4; omega); rw [← hj] at this; exact this)
  have hiw := Lib.hid (fun W (h : Tabs W b) => by have := word_at h.2.1 i (by show i < 4; omega); rw [← hi] at this; exact this)
  clear m1 m2 hj q1 q2 hi
  have hbl := hW.lt
  have ha : Below b w (w.alloc (.cells #[.int .i64 kd, .int .i64 mt, .int .i64 pt, .slice A1 nm.length c1, .slice A2 ks.length c2, .bool ov, .int .i64 lm, .slice A3 ts.length c3] 107)) := (Below.refl _ _).alloc (Nat.le_of_lt hbl) _
  obtain ⟨k, hkd⟩ : ∃ k : Nat, kd = (k : Int) := ⟨kd.toNat, by omega⟩
  have hwd := word_at (hT.1.step ha) k (by show k < 11; omega)
  rw [← hkd] at hwd
  have i0 : 0 ≤ kd := by omega
  have i1 : kd < 11 := by omega
  have hkn : kd.toNat = k := by omega
  have hP : BlkT (w.alloc (.cells #[.int .i64 kd, .int .i64 mt, .int .i64 pt, .slice A1 nm.length c1, .slice A2 ks.length c2, .bool ov, .int .i64 lm, .slice A3 ts.length c3] 107)) w.heap.size 107 [.int .i64 kd, .int .i64 mt, .int .i64 pt, .slice A1 nm.length c1, .slice A2 ks.length c2, .bool ov, .int .i64 lm, .slice A3 ts.length c3] := BlkT.made w _ _
  have hR : Wrote b w (w.alloc (.cells #[.int .i64 kd, .int .i64 mt, .int .i64 pt, .slice A1 nm.length c1, .slice A2 ks.length c2, .bool ov, .int .i64 lm, .slice A3 ts.length c3] 107)) := (Wrote.refl b w).alloc (Nat.le_of_lt hbl) _
  have HP := Lib.hid (fun l k s w h hl => put_calls b l k s w h hl)
  have HL := Lib.hid (fun l0 A c l w h hr h0 hl => wlist_calls b l0 A c l w h hr h0 hl)
  replace hW := Lib.hid (hW.below ((Below.refl _ _).alloc (Nat.le_refl _) (.cells #[.int .i64 kd, .int .i64 mt, .int .i64 pt, .slice A1 nm.length c1, .slice A2 ks.length c2, .bool ov, .int .i64 lm, .slice A3 ts.length c3] 107)))
  generalize wordAt testWords kd = word at *
  have p0 := hP.1.at 0 _ rfl
  have p1 := hP.1.at 1 _ rfl
  have p2 := hP.1.at 2 _ rfl
  have p3 := hP.1.at 3 _ rfl
  have p4 := hP.1.at 4 _ rfl
  have p5 := hP.1.at 5 _ rfl
  have p6 := hP.1.at 6 _ rfl
  have p7 := hP.1.at 7 _ rfl
  clear hkd k1 k2
  replace hlim := Lib.hid hlim
  replace hT := Lib.hid hT
  go_enter Tryd.func161, Tryd.ntmps161
  go_wp2_with fail
  refine (HP.out _ 1 word _ hW.out (by have := hlim.out; (try simp only [List.length_append, List.length_cons, List.length_nil]); omega)).mono ?_
  rintro e w1 ⟨rfl, hWn, hRn⟩
  clear p0 p1 p2 p3 p4 p5 p6 p7
  replace hP := hRn.2.2 _ _ _ (by omega) (by decide) hP
  replace hR := hR.trans hRn
  replace hW := Lib.hid hWn
  clear hRn hWn
  have p0 := hP.1.at 0 _ rfl
  have p1 := hP.1.at 1 _ rfl
  have p2 := hP.1.at 2 _ rfl
  have p3 := hP.1.at 3 _ rfl
  have p4 := hP.1.at 4 _ rfl
  have p5 := hP.1.at 5 _ rfl
  have p6 := hP.1.at 6 _ rfl
  have p7 := hP.1.at 7 _ rfl
  have hq := hiw.out _ (hT.out.step hR.1)
  go_wp2_with fail
  refine (HP.out _ 2 (wordAt partWords pt) _ hW.out (by have := hlim.out; (try simp only [List.length_append, List.length_cons, List.length_nil]); omega)).mono ?_
  clear hq
  rintro e w2 ⟨rfl, hWn, hRn⟩
  clear p0 p1 p2 p3 p4 p5 p6 p7
  replace hP := hRn.2.2 _ _ _ (by omega) (by decide) hP
  replace hR := hR.trans hRn
  replace hW := Lib.hid hWn
  clear hRn hWn
  have p0 := hP.1.at 0 _ rfl
  have p1 := hP.1.at 1 _ rfl
  have p2 := hP.1.at 2 _ rfl
  have p3 := hP.1.at 3 _ rfl
  have p4 := hP.1.at 4 _ rfl
  have p5 := hP.1.at 5 _ rfl
  have p6 := hP.1.at 6 _ rfl
  have p7 := hP.1.at 7 _ rfl
  have hq := hjw.out _ (hT.out.step hR.1)
  go_wp2_with fail
  refine (HP.out _ 2 (wordAt matchWords mt) _ hW.out (by have := hlim.out; (try simp only [List.length_append, List.length_cons, List.length_nil]); omega)).mono ?_
  clear hq
  rintro e w3 ⟨rfl, hWn, hRn⟩
  clear p0 p1 p2 p3 p4 p5 p6 p7
  replace hP := hRn.2.2 _ _ _ (by omega) (by decide) hP
  replace hR := hR.trans hRn
  replace hW := Lib.hid hWn
  clear hRn hWn
  have p0 := hP.1.at 0 _ rfl
  have p1 := hP.1.at 1 _ rfl
  have p2 := hP.1.at 2 _ rfl
  have p3 := hP.1.at 3 _ rfl
  have p4 := hP.1.at 4 _ rfl
  have p5 := hP.1.at 5 _ rfl
  have p6 := hP.1.at 6 _ rfl
  have p7 := hP.1.at 7 _ rfl
  go_wp2_with fail
  refine (HL.out _ A1 c1 nm _ hW.out (r1.out.step hR.1) hn.out (by have := hlim.out; (try simp only [List.length_append, List.length_cons, List.length_nil]); omega)).mono ?_
  rintro e w4 ⟨rfl, hWn, hRn⟩
  clear p0 p1 p2 p3 p4 p5 p6 p7
  replace hP := hRn.2.2 _ _ _ (by omega) (by decide) hP
  replace hR := hR.trans hRn
  replace hW := Lib.hid hWn
  clear hRn hWn
  have p0 := hP.1.at 0 _ rfl
  have p1 := hP.1.at 1 _ rfl
  have p2 := hP.1.at 2 _ rfl
  have p3 := hP.1.at 3 _ rfl
  have p4 := hP.1.at 4 _ rfl
  have p5 := hP.1.at 5 _ rfl
  have p6 := hP.1.at 6 _ rfl
  have p7 := hP.1.at 7 _ rfl
  go_wp2_with fail
  refine (HL.out _ A2 c2 ks _ hW.out (r2.out.step hR.1) hk.out (by have := hlim.out; have := strs_len hn.out; simp only [List.length_append, List.length_cons, List.length_nil]; omega)).mono ?_
  rintro e w5 ⟨rfl, hWn, hRn⟩
  clear p0 p1 p2 p3 p4 p5 p6 p7
  replace hP := hRn.2.2 _ _ _ (by omega) (by decide) hP
  replace hR := hR.trans hRn
  replace hW := Lib.hid hWn
  clear hRn hWn
  have p0 := hP.1.at 0 _ rfl
  have p1 := hP.1.at 1 _ rfl
  have p2 := hP.1.at 2 _ rfl
  have p3 := hP.1.at 3 _ rfl
  have p4 := hP.1.at 4 _ rfl
  have p5 := hP.1.at 5 _ rfl
  have p6 := hP.1.at 6 _ rfl
  have p7 := hP.1.at 7 _ rfl
  go_wp2_with fail
  go_end0
  exact ⟨rfl, by simpa using hW.out, hR⟩
set_option maxHeartbeats 1000000 in
set_option maxRecDepth 100000 in
theorem wt_N (n : Nat) (A1 : Option Addr) (c1 : Nat) (A2 : Option Addr) (c2 : Nat) (A3 : Option Addr) (c3 : Nat) (kd mt pt : Int) (nm ks : List ByteArray) (ov : Bool) (lm : Int) (ts : List (TestN n)) (b : Nat) (l0 : List AToken) (w : World) (hT : Tabs w b) (hW : WrAt w b l0) (k1 : 3 ≤ kd) (k2 : kd ≤ 3) (IH : WtT n) (dp : Int) (h1 : 0 < ts.length) (hc : checkT n (ts[0]'h1) (dp + 1) = 0) (r3 : Und (kTest n) w b A3 ts) (hlim : l0.length + 8 * (1 + wtT n (ts[0]'h1)) ≤ 1073741824) : Calls Tryd.prog 161 #[.pointer (some ⟨b, 0, none⟩), .agg #[.int .i64 kd, .int .i64 mt, .int .i64 pt, .slice A1 nm.length c1, .slice A2 ks.length c2, .bool ov, .int .i64 lm, .slice A3 ts.length c3]] w (fun e w' => e = .returned (.tuple #[]) ∧ WrAt w' b (l0 ++ (tk 1 (wordAt testWords kd) :: showT n (ts[0]'h1))) ∧ Wrote b w w') := by
  have b3 : (kd == 3) = true := by rw [beq_iff_eq]; omega
  have b4 : (kd == 4) = false := by rw [beq_eq_false_iff_ne]; omega
  have b5 : (kd == 5) = false := by rw [beq_eq_false_iff_ne]; omega
  have b6 : (kd == 6) = false := by rw [beq_eq_false_iff_ne]; omega
  have b7 : (kd == 7) = false := by rw [beq_eq_false_iff_ne]; omega
  have b8 : (kd == 8) = false := by rw [beq_eq_false_iff_ne]; omega
  have b9 : (kd == 9) = false := by rw [beq_eq_false_iff_ne]; omega
  have b10 : (kd == 10) = false := by rw [beq_eq_false_iff_ne]; omega
  have nk6 : (kd != 6) = true := by rw [bne_iff_ne]; omega
  obtain ⟨ad, cx, e1', hKx, hxx⟩ := r3.elem (kTest_sz n) 0 h1
  obtain ⟨x0, x1, x2, X3, l3, C3, X4, l4, C4, x5, x6, X7, l7, C7, rfl⟩ := testN_K hKx.now
  have ez : ad.add (0 * 8) = ad := by simp [Addr.add]
  rw [ez] at hxx
  have FF := Lib.hid (fun W (h : Below b w W) => And.intro ((hxx W h).1 _ rfl) (And.intro ((hxx W h).2 1 _ (by decide) rfl) (And.intro ((hxx W h).2 2 _ (by decide) rfl) (And.intro ((hxx W h).2 3 _ (by decide) rfl) (And.intro ((hxx W h).2 4 _ (by decide) rfl) (And.intro ((hxx W h).2 5 _ (by decide) rfl) (And.intro ((hxx W h).2 6 _ (by decide) rfl) ((hxx W h).2 7 _ (by decide) rfl))))))))
  have HX := Lib.hid (fun l0 W (h : Below b w W) hT hW hl => IH (ts[0]'h1) _ (dp + 1) b l0 W (hKx.step h) hc hT hW hl)
  generalize showT n (ts[0]'h1) = R at *
  generalize wtT n (ts[0]'h1) = wt at *
  have j0 : (0 : Int) < (ts.length : Int) := by omega
  clear hxx hKx ez r3 hc IH h1
  replace e1' := Lib.hid e1'
  have hbl := hW.lt
  have ha : Below b w (w.alloc (.cells #[.int .i64 kd, .int .i64 mt, .int .i64 pt, .slice A1 nm.length c1, .slice A2 ks.length c2, .bool ov, .int .i64 lm, .slice A3 ts.length c3] 107)) := (Below.refl _ _).alloc (Nat.le_of_lt hbl) _
  obtain ⟨k, hkd⟩ : ∃ k : Nat, kd = (k : Int) := ⟨kd.toNat, by omega⟩
  have hwd := word_at (hT.1.step ha) k (by show k < 11; omega)
  rw [← hkd] at hwd
  have i0 : 0 ≤ kd := by omega
  have i1 : kd < 11 := by omega
  have hkn : kd.toNat = k := by omega
  have hP : BlkT (w.alloc (.cells #[.int .i64 kd, .int .i64 mt, .int .i64 pt, .slice A1 nm.length c1, .slice A2 ks.length c2, .bool ov, .int .i64 lm, .slice A3 ts.length c3] 107)) w.heap.size 107 [.int .i64 kd, .int .i64 mt, .int .i64 pt, .slice A1 nm.length c1, .slice A2 ks.length c2, .bool ov, .int .i64 lm, .slice A3 ts.length c3] := BlkT.made w _ _
  have hR : Wrote b w (w.alloc (.cells #[.int .i64 kd, .int .i64 mt, .int .i64 pt, .slice A1 nm.length c1, .slice A2 ks.length c2, .bool ov, .int .i64 lm, .slice A3 ts.length c3] 107)) := (Wrote.refl b w).alloc (Nat.le_of_lt hbl) _
  have HP := Lib.hid (fun l k s w h hl => put_calls b l k s w h hl)
  have HL := Lib.hid (fun l0 A c l w h hr h0 hl => wlist_calls b l0 A c l w h hr h0 hl)
  replace hW := Lib.hid (hW.below ((Below.refl _ _).alloc (Nat.le_refl _) (.cells #[.int .i64 kd, .int .i64 mt, .int .i64 pt, .slice A1 nm.length c1, .slice A2 ks.length c2, .bool ov, .int .i64 lm, .slice A3 ts.length c3] 107)))
  generalize wordAt testWords kd = word at *
  have p0 := hP.1.at 0 _ rfl
  have p1 := hP.1.at 1 _ rfl
  have p2 := hP.1.at 2 _ rfl
  have p3 := hP.1.at 3 _ rfl
  have p4 := hP.1.at 4 _ rfl
  have p5 := hP.1.at 5 _ rfl
  have p6 := hP.1.at 6 _ rfl
  have p7 := hP.1.at 7 _ rfl
  clear hkd k1 k2
  replace hlim := Lib.hid hlim
  replace hT := Lib.hid hT
  go_enter Tryd.func161, Tryd.ntmps161
  go_wp2_with fail
  refine (HP.out _ 1 word _ hW.out (by have := hlim.out; (try simp only [List.length_append, List.length_cons, List.length_nil]); omega)).mono ?_
  rintro e w1 ⟨rfl, hWn, hRn⟩
  clear p0 p1 p2 p3 p4 p5 p6 p7
  replace hP := hRn.2.2 _ _ _ (by omega) (by decide) hP
  replace hR := hR.trans hRn
  replace hW := Lib.hid hWn
  clear hRn hWn
  have p0 := hP.1.at 0 _ rfl
  have p1 := hP.1.at 1 _ rfl
  have p2 := hP.1.at 2 _ rfl
  have p3 := hP.1.at 3 _ rfl
  have p4 := hP.1.at 4 _ rfl
  have p5 := hP.1.at 5 _ rfl
  have p6 := hP.1.at 6 _ rfl
  have p7 := hP.1.at 7 _ rfl
  have e2 := e1'.out
  subst e2
  clear e1'
  have q := FF.out _ hR.1
  obtain ⟨q0, q1, q2, q3, q4, q5, q6, q7⟩ := q
  go_wp2_with fail
  refine (HX.out _ _ hR.1 (hT.out.step hR.1) hW.out (by have := hlim.out; (try simp only [List.length_append, List.length_cons, List.length_nil]); omega)).mono ?_
  rintro e w2 ⟨rfl, hWn, hRn⟩
  replace hWn := Lib.hid hWn
  replace hR := hR.trans hRn
  go_wp2_with fail
  go_end0
  exact ⟨rfl, by simpa using hWn.out, hR⟩
end Go.Proofs.YtijdghplfhfpaaaDoor.H

/- Scripts: the writer's test: a size. -/
namespace Go.Proofs.YtijdghplfhfpaaaDoor.H
open Go.RowKit Go.Proofs.YtijdghplfhfpaaaDoorW.PrintWords Go.Proofs.YtijdghplfhfpaaaDoorW.PrintLast Go.Proofs.YtijdghplfhfpaaaDoor.U
set_option linter.unusedVariables false
set_option linter.unusedSimpArgs false
set_option maxHeartbeats 2000000 in
set_option maxRecDepth 100000 in
theorem wt_S (n : Nat) (A1 : Option Addr) (c1 : Nat) (A2 : Option Addr) (c2 : Nat) (A3 : Option Addr) (c3 : Nat) (kd mt pt : Int) (nm ks : List ByteArray) (ov : Bool) (lm : Int) (ts : List (TestN n)) (b : Nat) (l0 : List AToken) (w : World) (hT : Tabs w b) (hW : WrAt w b l0) (k1 : 10 ≤ kd) (k2 : kd ≤ 10) (hlim : l0.length + 8 ≤ 1073741824) : Calls Tryd.prog 161 #[.pointer (some ⟨b, 0, none⟩), .agg #[.int .i64 kd, .int .i64 mt, .int .i64 pt, .slice A1 nm.length c1, .slice A2 ks.length c2, .bool ov, .int .i64 lm, .slice A3 ts.length c3]] w (fun e w' => e = .returned (.tuple #[]) ∧ WrAt w' b (l0 ++ [tk 1 (wordAt testWords kd), tk 2 (if ov = true then (⟨#[111, 118, 101, 114]⟩ : ByteArray) else (⟨#[117, 110, 100, 101, 114]⟩ : ByteArray)), ⟨3, ⟨#[]⟩, lm⟩]) ∧ Wrote b w w') := by
  have b3 : (kd == 3) = false := by rw [beq_eq_false_iff_ne]; omega
  have b4 : (kd == 4) = false := by rw [beq_eq_false_iff_ne]; omega
  have b5 : (kd == 5) = false := by rw [beq_eq_false_iff_ne]; omega
  have b6 : (kd == 6) = false := by rw [beq_eq_false_iff_ne]; omega
  have b7 : (kd == 7) = false := by rw [beq_eq_false_iff_ne]; omega
  have b8 : (kd == 8) = false := by rw [beq_eq_false_iff_ne]; omega
  have b9 : (kd == 9) = false := by rw [beq_eq_false_iff_ne]; omega
  have b10 : (kd == 10) = true := by rw [beq_iff_eq]; omega
  have nk6 : (kd != 6) = true := by rw [bne_iff_ne]; omega
  have hwn : ∃ wd, wd = (if ov = true then (⟨#[111, 118, 101, 114]⟩ : ByteArray) else (⟨#[117, 110, 100, 101, 114]⟩ : ByteArray)) := ⟨_, rfl⟩
  obtain ⟨wd, hwd'⟩ := hwn
  rw [← hwd']
  replace hwd' := Lib.hid hwd'
  have hbl := hW.lt
  have ha : Below b w (w.alloc (.cells #[.int .i64 kd, .int .i64 mt, .int .i64 pt, .slice A1 nm.length c1, .slice A2 ks.length c2, .bool ov, .int .i64 lm, .slice A3 ts.length c3] 107)) := (Below.refl _ _).alloc (Nat.le_of_lt hbl) _
  obtain ⟨k, hkd⟩ : ∃ k : Nat, kd = (k : Int) := ⟨kd.toNat, by omega⟩
  have hwd := word_at (hT.1.step ha) k (by show k < 11; omega)
  rw [← hkd] at hwd
  have i0 : 0 ≤ kd := by omega
  have i1 : kd < 11 := by omega
  have hkn : kd.toNat = k := by omega
  have hP : BlkT (w.alloc (.cells #[.int .i64 kd, .int .i64 mt, .int .i64 pt, .slice A1 nm.length c1, .slice A2 ks.length c2, .bool ov, .int .i64 lm, .slice A3 ts.length c3] 107)) w.heap.size 107 [.int .i64 kd, .int .i64 mt, .int .i64 pt, .slice A1 nm.length c1, .slice A2 ks.length c2, .bool ov, .int .i64 lm, .slice A3 ts.length c3] := BlkT.made w _ _
  have hR : Wrote b w (w.alloc (.cells #[.int .i64 kd, .int .i64 mt, .int .i64 pt, .slice A1 nm.length c1, .slice A2 ks.length c2, .bool ov, .int .i64 lm, .slice A3 ts.length c3] 107)) := (Wrote.refl b w).alloc (Nat.le_of_lt hbl) _
  have HP := Lib.hid (fun l k s w h hl => put_calls b l k s w h hl)
  have HL := Lib.hid (fun l0 A c l w h hr h0 hl => wlist_calls b l0 A c l w h hr h0 hl)
  replace hW := Lib.hid (hW.below ((Below.refl _ _).alloc (Nat.le_refl _) (.cells #[.int .i64 kd, .int .i64 mt, .int .i64 pt, .slice A1 nm.length c1, .slice A2 ks.length c2, .bool ov, .int .i64 lm, .slice A3 ts.length c3] 107)))
  generalize wordAt testWords kd = word at *
  have p0 := hP.1.at 0 _ rfl
  have p1 := hP.1.at 1 _ rfl
  have p2 := hP.1.at 2 _ rfl
  have p3 := hP.1.at 3 _ rfl
  have p4 := hP.1.at 4 _ rfl
  have p5 := hP.1.at 5 _ rfl
  have p6 := hP.1.at 6 _ rfl
  have p7 := hP.1.at 7 _ rfl
  clear hkd k1 k2
  replace hlim := Lib.hid hlim
  replace hT := Lib.hid hT
  go_enter Tryd.func161, Tryd.ntmps161
  go_wp2_with fail
  refine (HP.out _ 1 word _ hW.out (by have := hlim.out; (try simp only [List.length_append, List.length_cons, List.length_nil]); omega)).mono ?_
  rintro e w1 ⟨rfl, hWn, hRn⟩
  clear p0 p1 p2 p3 p4 p5 p6 p7
  replace hP := hRn.2.2 _ _ _ (by omega) (by decide) hP
  replace hR := hR.trans hRn
  replace hW := Lib.hid hWn
  clear hRn hWn
  have p0 := hP.1.at 0 _ rfl
  have p1 := hP.1.at 1 _ rfl
  have p2 := hP.1.at 2 _ rfl
  have p3 := hP.1.at 3 _ rfl
  have p4 := hP.1.at 4 _ rfl
  have p5 := hP.1.at 5 _ rfl
  have p6 := hP.1.at 6 _ rfl
  have p7 := hP.1.at 7 _ rfl
  have hO := Blk.made w1 #[.string (⟨#[117, 110, 100, 101, 114]⟩ : ByteArray), .string (⟨#[111, 118, 101, 114]⟩ : ByteArray)] 9
  have hbw := hW.out.lt
  have hW2 := hW.out.below ((Below.refl _ _).alloc (Nat.le_refl _) (.cells #[.string (⟨#[117, 110, 100, 101, 114]⟩ : ByteArray), .string (⟨#[111, 118, 101, 114]⟩ : ByteArray)] 9))
  have hR2 := hR.alloc (Nat.le_of_lt hbw) (.cells #[.string (⟨#[117, 110, 100, 101, 114]⟩ : ByteArray), .string (⟨#[111, 118, 101, 114]⟩ : ByteArray)] 9)
  have hP2 := hP.alloc (.cells #[.string (⟨#[117, 110, 100, 101, 114]⟩ : ByteArray), .string (⟨#[111, 118, 101, 114]⟩ : ByteArray)] 9)
  have o0 := hO.at 0 _ rfl
  have o1 := hO.at 1 _ rfl
  have nlt := hP.1.lt
  replace hW2 := Lib.hid hW2
  cases ov with
  | true =>
    have e9 := hwd'.out
    rw [if_pos rfl] at e9
    subst e9
    clear hwd'
    skip
    go_wp2_with (go_at_call 163; refine (flag_calls _ _).mono ?_; rintro e w' ⟨rfl, rfl⟩)
    refine (HP.out _ 2 (⟨#[111, 118, 101, 114]⟩ : ByteArray) _ hW2.out (by have := hlim.out; (try simp only [List.length_append, List.length_cons, List.length_nil]); omega)).mono ?_
    rintro e w3 ⟨rfl, hW3, hR3⟩
    have hP3 := hR3.2.2 _ _ _ (by omega) (by decide) hP2
    have hR23 := hR2.trans hR3
    clear hR3 hP2 hO o0 o1 p0 p1 p2 p3 p4 p5 p6 p7 hP hR hW
    have p6 := hP3.1.at 6 _ rfl
    obtain ⟨A9, n9, c9, hK9, hRow⟩ := hW3
    have b0 := hK9.at 0 _ rfl
    have bl3 := hK9.lt
    go_wp2_with fail
    generalize hL : (l0 ++ [tk 1 word]) ++ [tk 2 (⟨#[111, 118, 101, 114]⟩ : ByteArray)] = L at *
    have hlim2 : L.length + 1 ≤ 1073741824 := by rw [← hL]; have := hlim.out; simp only [List.length_append, List.length_cons, List.length_nil]; omega
    replace hlim2 := Lib.hid hlim2
    replace hL := Lib.hid hL
    have hK9d := hK9.drew
    have hRd := Kd.R_drew hRow
    have hBd : Wrote b w w3.drew := hR23.trans (Wrote.fresh (below_drew1 (Below.refl _ _)) (Nat.le_of_lt bl3))
    have hTd := hP3.below (show Below w3.heap.size w3 w3.drew from below_drew1 (Below.refl _ _)) hP3.1.lt
    have b0d := hK9d.at 0 _ rfl
    have p6d := hTd.1.at 6 _ rfl
    refine wp_region_held_drew (S := fun w' => w'.cell? ⟨w.heap.size, 6, none⟩ = some (.int .i64 lm)) (by kernel_rfl) ?_ (fun hHeld => ?_)
    · exact p6d
    generalize w3.drew = V at *
    have vl := hK9d.lt
    refine wpAnyH_take (i := 0) (oi := { dst := some 90, op := _, type := _, pos := _, after := _, guard := _ }) (v := .pointer (some ⟨b, 0, none⟩)) rfl (by kernel_rfl) (by kernel_rfl) (by kernel_rfl) (fun _ _ _ h => h) (Or.inl ⟨by rfl, by (intro w hSw; (try dsimp only at hSw); first | (go_simp; done) | (go_simp; with_reducible rfl) | (go_simp; omega) | (go_simp; simp [*]; done))⟩) (by assumption) ?_; try simp only [Act.put, List.setIfInBounds_toArray, List.set_cons_zero, List.set_cons_succ]
    refine wpAnyH_take (i := 1) (oi := { dst := some 91, op := _, type := _, pos := _, after := _, guard := _ }) (v := .pointer (some ⟨b, 0, none⟩)) rfl (by kernel_rfl) (by kernel_rfl) (by kernel_rfl) (fun _ _ _ h => h) (Or.inl ⟨by rfl, by (intro w hSw; (try dsimp only at hSw); first | (go_simp; done) | (go_simp; with_reducible rfl) | (go_simp; omega) | (go_simp; simp [*]; done))⟩) (by assumption) ?_; try simp only [Act.put, List.setIfInBounds_toArray, List.set_cons_zero, List.set_cons_succ]
    refine wpAnyH_take (i := 2) (oi := { dst := some 92, op := _, type := _, pos := _, after := _, guard := _ }) (v := .pointer (some ⟨b, 0, none⟩)) rfl (by kernel_rfl) (by kernel_rfl) (by kernel_rfl) (fun _ _ _ h => h) (Or.inl ⟨by rfl, by (intro w hSw; (try dsimp only at hSw); first | (go_simp; done) | (go_simp; with_reducible rfl) | (go_simp; omega) | (go_simp; simp [*]; done))⟩) (by assumption) ?_; try simp only [Act.put, List.setIfInBounds_toArray, List.set_cons_zero, List.set_cons_succ]
    refine wpAnyH_take (i := 3) (oi := { dst := some 93, op := _, type := _, pos := _, after := _, guard := _ }) (v := .pointer (some ⟨b, 0, none⟩)) rfl (by kernel_rfl) (by kernel_rfl) (by kernel_rfl) (fun _ _ _ h => h) (Or.inl ⟨by rfl, by (intro w hSw; (try dsimp only at hSw); first | (go_simp; done) | (go_simp; with_reducible rfl) | (go_simp; omega) | (go_simp; simp [*]; done))⟩) (by assumption) ?_; try simp only [Act.put, List.setIfInBounds_toArray, List.set_cons_zero, List.set_cons_succ]
    refine wpAnyH_take (i := 5) (oi := { dst := some 95, op := _, type := _, pos := _, after := _, guard := _ }) (v := .pointer (some ⟨w.heap.size, 6, none⟩)) rfl (by kernel_rfl) (by kernel_rfl) (by kernel_rfl) (fun _ _ _ h => h) (Or.inl ⟨by rfl, by (intro w hSw; (try dsimp only at hSw); first | (go_simp; done) | (go_simp; with_reducible rfl) | (go_simp; omega) | (go_simp; simp [*]; done))⟩) (by assumption) ?_; try simp only [Act.put, List.setIfInBounds_toArray, List.set_cons_zero, List.set_cons_succ]
    refine wpAnyH_take (i := 6) (oi := { dst := some 96, op := _, type := _, pos := _, after := _, guard := _ }) (v := .int .i64 lm) rfl (by kernel_rfl) (by kernel_rfl) (by kernel_rfl) (fun _ _ _ h => h) (Or.inl ⟨by rfl, by (intro w hSw; (try dsimp only at hSw); first | (go_simp; done) | (go_simp; with_reducible rfl) | (go_simp; omega) | (go_simp; simp [*]; done))⟩) (by assumption) ?_; try simp only [Act.put, List.setIfInBounds_toArray, List.set_cons_zero, List.set_cons_succ]
    refine wpAnyH_take (i := 7) (oi := { dst := some 97, op := _, type := _, pos := _, after := _, guard := _ }) (v := .agg #[.int .i64 3, .string ⟨#[]⟩, .int .i64 lm]) rfl (by kernel_rfl) (by kernel_rfl) (by kernel_rfl) (fun _ _ _ h => h) (Or.inl ⟨by rfl, by (intro w hSw; (try dsimp only at hSw); first | (go_simp; done) | (go_simp; with_reducible rfl) | (go_simp; omega) | (go_simp; simp [*]; done))⟩) (by assumption) ?_; try simp only [Act.put, List.setIfInBounds_toArray, List.set_cons_zero, List.set_cons_succ]
    refine wpAnyH_ready (rs := [4, 8]) (by kernel_rfl) (by simp) ?_
    refine AllReadyH.cons (o := { dst := some 94, op := _, type := _, pos := _, after := _, guard := _ }) rfl (fun K hK => ?_) (AllReadyH.cons (o := { dst := some 98, op := _, type := _, pos := _, after := _, guard := _ }) rfl (fun K hK => ?_) AllReadyH.nil)
    · go_simp
      refine hK.out _ _ p6d (fun hHeld => ?_)
      clear hK K
      refine wpAnyH_ready (rs := [8]) (by kernel_rfl) (by simp) ?_
      refine AllReadyH.cons (o := { dst := some 98, op := _, type := _, pos := _, after := _, guard := _ }) rfl (fun K hK => ?_) AllReadyH.nil
      go_simp
      refine hK.out _ _ (cell_alloc' p6d _) (fun hHeld => ?_)
      clear hK K
      refine wpAnyH_ready (rs := [9]) (by kernel_rfl) (by simp) ?_
      refine AllReadyH.cons (o := { dst := some 99, op := _, type := _, pos := _, after := _, guard := _ }) rfl (fun K hK => ?_) AllReadyH.nil
      refine snoc_step rowAToken (b + 1) (by rfl) (.tmp 94) (.tmp 98) (by rfl) (.slice A9 n9 c9) L ⟨3, ⟨#[]⟩, lm⟩ [.int .i64 3, .string ⟨#[]⟩, .int .i64 lm] (by rfl) (by rfl) rfl hRd (by omega) (by have := hlim2.out; omega) ?_
      intro v8 w8 hR8 hb8 hg8
      obtain ⟨A8, n8, c8, rfl⟩ : ∃ A8 n8 c8, v8 = .slice A8 n8 c8 := by obtain ⟨A8, c8, e8⟩ := Kd.R_slice hR8; exact ⟨A8, _, c8, e8⟩
      have hK8 := hK9d.beside hRd hg8 (by omega)
      have hT8 := hTd.row hRd hg8 (by decide)
      have e6 := hT8.1.at 6 _ rfl
      refine hK.out _ _ e6 (fun hHeld => ?_)
      clear hK K
      have b08 := hK8.at 0 _ rfl
      have g08 := hK8.free 0 _ rfl
      have bl8 := hK8.lt
      refine wpAnyH_take (i := 10) (oi := { dst := some 100, op := _, type := _, pos := _, after := _, guard := _ }) (v := .pointer (some ⟨b, 0, none⟩)) rfl (by kernel_rfl) (by kernel_rfl) (by kernel_rfl) (fun _ _ _ h => h) (Or.inl ⟨by rfl, by (intro w hSw; (try dsimp only at hSw); first | (go_simp; done) | (go_simp; with_reducible rfl) | (go_simp; omega) | (go_simp; simp [*]; done))⟩) (by assumption) ?_; try simp only [Act.put, List.setIfInBounds_toArray, List.set_cons_zero, List.set_cons_succ]
      refine wpAnyH_take (i := 11) (oi := { dst := some 101, op := _, type := _, pos := _, after := _, guard := _ }) (v := .pointer (some ⟨b, 0, none⟩)) rfl (by kernel_rfl) (by kernel_rfl) (by kernel_rfl) (fun _ _ _ h => h) (Or.inl ⟨by rfl, by (intro w hSw; (try dsimp only at hSw); first | (go_simp; done) | (go_simp; with_reducible rfl) | (go_simp; omega) | (go_simp; simp [*]; done))⟩) (by assumption) ?_; try simp only [Act.put, List.setIfInBounds_toArray, List.set_cons_zero, List.set_cons_succ]
      refine wpAnyH_ready (rs := [12]) (by kernel_rfl) (by simp) ?_
      refine AllReadyH.cons (o := { dst := none, op := _, type := _, pos := _, after := _, guard := _ }) rfl (fun K hK => ?_) AllReadyH.nil
      go_simp
      refine hK.out _ _ (cell_other' e6 (by show w.heap.size ≠ b; omega) _) (fun hHeld => ?_)
      clear hK K
      refine wpAnyH_done (by kernel_rfl) ?_ _
      have hB8 : Below b V w8 := hb8.mono (by omega)
      have hKW : KeepW b V w8 := ⟨hg8.size, fun c t l _ ht hb => hb.row hRd hg8 ht⟩
      have hRf : Wrote b V (w8.setCell ⟨b, 0, none⟩ (.slice A8 n8 c8)) := ⟨Below.setCell hB8 (Nat.le_refl _) _, by simpa using hKW.1, fun c t l hc ht hb => (hKW.2 c t l hc ht hb).other (fun e => hc e.symm) _⟩
      have hWf : WrAt (w8.setCell ⟨b, 0, none⟩ (.slice A8 n8 c8)) b (L ++ [⟨3, ⟨#[]⟩, lm⟩]) := ⟨A8, n8, c8, hK8.set 0 _ (by simp), R_elder hR8 (by show b < b + 1; omega) _⟩
      replace hWf := Lib.hid hWf
      go_wp2_with fail
      go_end0
      exact ⟨rfl, by have := hWf.out; rw [← hL.out] at this; simpa using this, hBd.trans hRf⟩
    · go_simp
      refine hK.out _ _ (cell_alloc' p6d _) (fun hHeld => ?_)
      clear hK K
      have b0a := cell_alloc' b0d (.cells #[.int .i64 3, .string ⟨#[]⟩, .int .i64 lm] 119)
      refine wpAnyH_ready (rs := [4]) (by kernel_rfl) (by simp) ?_
      refine AllReadyH.cons (o := { dst := some 94, op := _, type := _, pos := _, after := _, guard := _ }) rfl (fun K hK => ?_) AllReadyH.nil
      go_simp
      refine hK.out _ _ (cell_alloc' p6d _) (fun hHeld => ?_)
      clear hK K
      refine wpAnyH_ready (rs := [9]) (by kernel_rfl) (by simp) ?_
      refine AllReadyH.cons (o := { dst := some 99, op := _, type := _, pos := _, after := _, guard := _ }) rfl (fun K hK => ?_) AllReadyH.nil
      refine snoc_step rowAToken (b + 1) (by rfl) (.tmp 94) (.tmp 98) (by rfl) (.slice A9 n9 c9) L ⟨3, ⟨#[]⟩, lm⟩ [.int .i64 3, .string ⟨#[]⟩, .int .i64 lm] (by rfl) (by rfl) rfl hRd (by omega) (by have := hlim2.out; omega) ?_
      intro v8 w8 hR8 hb8 hg8
      obtain ⟨A8, n8, c8, rfl⟩ : ∃ A8 n8 c8, v8 = .slice A8 n8 c8 := by obtain ⟨A8, c8, e8⟩ := Kd.R_slice hR8; exact ⟨A8, _, c8, e8⟩
      have hK8 := hK9d.beside hRd hg8 (by omega)
      have hT8 := hTd.row hRd hg8 (by decide)
      have e6 := hT8.1.at 6 _ rfl
      refine hK.out _ _ e6 (fun hHeld => ?_)
      clear hK K
      have b08 := hK8.at 0 _ rfl
      have g08 := hK8.free 0 _ rfl
      have bl8 := hK8.lt
      refine wpAnyH_take (i := 10) (oi := { dst := some 100, op := _, type := _, pos := _, after := _, guard := _ }) (v := .pointer (some ⟨b, 0, none⟩)) rfl (by kernel_rfl) (by kernel_rfl) (by kernel_rfl) (fun _ _ _ h => h) (Or.inl ⟨by rfl, by (intro w hSw; (try dsimp only at hSw); first | (go_simp; done) | (go_simp; with_reducible rfl) | (go_simp; omega) | (go_simp; simp [*]; done))⟩) (by assumption) ?_; try simp only [Act.put, List.setIfInBounds_toArray, List.set_cons_zero, List.set_cons_succ]
      refine wpAnyH_take (i := 11) (oi := { dst := some 101, op := _, type := _, pos := _, after := _, guard := _ }) (v := .pointer (some ⟨b, 0, none⟩)) rfl (by kernel_rfl) (by kernel_rfl) (by kernel_rfl) (fun _ _ _ h => h) (Or.inl ⟨by rfl, by (intro w hSw; (try dsimp only at hSw); first | (go_simp; done) | (go_simp; with_reducible rfl) | (go_simp; omega) | (go_simp; simp [*]; done))⟩) (by assumption) ?_; try simp only [Act.put, List.setIfInBounds_toArray, List.set_cons_zero, List.set_cons_succ]
      refine wpAnyH_ready (rs := [12]) (by kernel_rfl) (by simp) ?_
      refine AllReadyH.cons (o := { dst := none, op := _, type := _, pos := _, after := _, guard := _ }) rfl (fun K hK => ?_) AllReadyH.nil
      go_simp
      refine hK.out _ _ (cell_other' e6 (by show w.heap.size ≠ b; omega) _) (fun hHeld => ?_)
      clear hK K
      refine wpAnyH_done (by kernel_rfl) ?_ _
      have hB8 : Below b V w8 := hb8.mono (by omega)
      have hKW : KeepW b V w8 := ⟨hg8.size, fun c t l _ ht hb => hb.row hRd hg8 ht⟩
      have hRf : Wrote b V (w8.setCell ⟨b, 0, none⟩ (.slice A8 n8 c8)) := ⟨Below.setCell hB8 (Nat.le_refl _) _, by simpa using hKW.1, fun c t l hc ht hb => (hKW.2 c t l hc ht hb).other (fun e => hc e.symm) _⟩
      have hWf : WrAt (w8.setCell ⟨b, 0, none⟩ (.slice A8 n8 c8)) b (L ++ [⟨3, ⟨#[]⟩, lm⟩]) := ⟨A8, n8, c8, hK8.set 0 _ (by simp), R_elder hR8 (by show b < b + 1; omega) _⟩
      replace hWf := Lib.hid hWf
      go_wp2_with fail
      go_end0
      exact ⟨rfl, by have := hWf.out; rw [← hL.out] at this; simpa using this, hBd.trans hRf⟩
  | false =>
    have e9 := hwd'.out
    rw [if_neg (by simp)] at e9
    subst e9
    clear hwd'
    skip
    go_wp2_with (go_at_call 163; refine (flag_calls _ _).mono ?_; rintro e w' ⟨rfl, rfl⟩)
    refine (HP.out _ 2 (⟨#[117, 110, 100, 101, 114]⟩ : ByteArray) _ hW2.out (by have := hlim.out; (try simp only [List.length_append, List.length_cons, List.length_nil]); omega)).mono ?_
    rintro e w3 ⟨rfl, hW3, hR3⟩
    have hP3 := hR3.2.2 _ _ _ (by omega) (by decide) hP2
    have hR23 := hR2.trans hR3
    clear hR3 hP2 hO o0 o1 p0 p1 p2 p3 p4 p5 p6 p7 hP hR hW
    have p6 := hP3.1.at 6 _ rfl
    obtain ⟨A9, n9, c9, hK9, hRow⟩ := hW3
    have b0 := hK9.at 0 _ rfl
    have bl3 := hK9.lt
    go_wp2_with fail
    generalize hL : (l0 ++ [tk 1 word]) ++ [tk 2 (⟨#[117, 110, 100, 101, 114]⟩ : ByteArray)] = L at *
    have hlim2 : L.length + 1 ≤ 1073741824 := by rw [← hL]; have := hlim.out; simp only [List.length_append, List.length_cons, List.length_nil]; omega
    replace hlim2 := Lib.hid hlim2
    replace hL := Lib.hid hL
    have hK9d := hK9.drew
    have hRd := Kd.R_drew hRow
    have hBd : Wrote b w w3.drew := hR23.trans (Wrote.fresh (below_drew1 (Below.refl _ _)) (Nat.le_of_lt bl3))
    have hTd := hP3.below (show Below w3.heap.size w3 w3.drew from below_drew1 (Below.refl _ _)) hP3.1.lt
    have b0d := hK9d.at 0 _ rfl
    have p6d := hTd.1.at 6 _ rfl
    refine wp_region_held_drew (S := fun w' => w'.cell? ⟨w.heap.size, 6, none⟩ = some (.int .i64 lm)) (by kernel_rfl) ?_ (fun hHeld => ?_)
    · exact p6d
    generalize w3.drew = V at *
    have vl := hK9d.lt
    refine wpAnyH_take (i := 0) (oi := { dst := some 90, op := _, type := _, pos := _, after := _, guard := _ }) (v := .pointer (some ⟨b, 0, none⟩)) rfl (by kernel_rfl) (by kernel_rfl) (by kernel_rfl) (fun _ _ _ h => h) (Or.inl ⟨by rfl, by (intro w hSw; (try dsimp only at hSw); first | (go_simp; done) | (go_simp; with_reducible rfl) | (go_simp; omega) | (go_simp; simp [*]; done))⟩) (by assumption) ?_; try simp only [Act.put, List.setIfInBounds_toArray, List.set_cons_zero, List.set_cons_succ]
    refine wpAnyH_take (i := 1) (oi := { dst := some 91, op := _, type := _, pos := _, after := _, guard := _ }) (v := .pointer (some ⟨b, 0, none⟩)) rfl (by kernel_rfl) (by kernel_rfl) (by kernel_rfl) (fun _ _ _ h => h) (Or.inl ⟨by rfl, by (intro w hSw; (try dsimp only at hSw); first | (go_simp; done) | (go_simp; with_reducible rfl) | (go_simp; omega) | (go_simp; simp [*]; done))⟩) (by assumption) ?_; try simp only [Act.put, List.setIfInBounds_toArray, List.set_cons_zero, List.set_cons_succ]
    refine wpAnyH_take (i := 2) (oi := { dst := some 92, op := _, type := _, pos := _, after := _, guard := _ }) (v := .pointer (some ⟨b, 0, none⟩)) rfl (by kernel_rfl) (by kernel_rfl) (by kernel_rfl) (fun _ _ _ h => h) (Or.inl ⟨by rfl, by (intro w hSw; (try dsimp only at hSw); first | (go_simp; done) | (go_simp; with_reducible rfl) | (go_simp; omega) | (go_simp; simp [*]; done))⟩) (by assumption) ?_; try simp only [Act.put, List.setIfInBounds_toArray, List.set_cons_zero, List.set_cons_succ]
    refine wpAnyH_take (i := 3) (oi := { dst := some 93, op := _, type := _, pos := _, after := _, guard := _ }) (v := .pointer (some ⟨b, 0, none⟩)) rfl (by kernel_rfl) (by kernel_rfl) (by kernel_rfl) (fun _ _ _ h => h) (Or.inl ⟨by rfl, by (intro w hSw; (try dsimp only at hSw); first | (go_simp; done) | (go_simp; with_reducible rfl) | (go_simp; omega) | (go_simp; simp [*]; done))⟩) (by assumption) ?_; try simp only [Act.put, List.setIfInBounds_toArray, List.set_cons_zero, List.set_cons_succ]
    refine wpAnyH_take (i := 5) (oi := { dst := some 95, op := _, type := _, pos := _, after := _, guard := _ }) (v := .pointer (some ⟨w.heap.size, 6, none⟩)) rfl (by kernel_rfl) (by kernel_rfl) (by kernel_rfl) (fun _ _ _ h => h) (Or.inl ⟨by rfl, by (intro w hSw; (try dsimp only at hSw); first | (go_simp; done) | (go_simp; with_reducible rfl) | (go_simp; omega) | (go_simp; simp [*]; done))⟩) (by assumption) ?_; try simp only [Act.put, List.setIfInBounds_toArray, List.set_cons_zero, List.set_cons_succ]
    refine wpAnyH_take (i := 6) (oi := { dst := some 96, op := _, type := _, pos := _, after := _, guard := _ }) (v := .int .i64 lm) rfl (by kernel_rfl) (by kernel_rfl) (by kernel_rfl) (fun _ _ _ h => h) (Or.inl ⟨by rfl, by (intro w hSw; (try dsimp only at hSw); first | (go_simp; done) | (go_simp; with_reducible rfl) | (go_simp; omega) | (go_simp; simp [*]; done))⟩) (by assumption) ?_; try simp only [Act.put, List.setIfInBounds_toArray, List.set_cons_zero, List.set_cons_succ]
    refine wpAnyH_take (i := 7) (oi := { dst := some 97, op := _, type := _, pos := _, after := _, guard := _ }) (v := .agg #[.int .i64 3, .string ⟨#[]⟩, .int .i64 lm]) rfl (by kernel_rfl) (by kernel_rfl) (by kernel_rfl) (fun _ _ _ h => h) (Or.inl ⟨by rfl, by (intro w hSw; (try dsimp only at hSw); first | (go_simp; done) | (go_simp; with_reducible rfl) | (go_simp; omega) | (go_simp; simp [*]; done))⟩) (by assumption) ?_; try simp only [Act.put, List.setIfInBounds_toArray, List.set_cons_zero, List.set_cons_succ]
    refine wpAnyH_ready (rs := [4, 8]) (by kernel_rfl) (by simp) ?_
    refine AllReadyH.cons (o := { dst := some 94, op := _, type := _, pos := _, after := _, guard := _ }) rfl (fun K hK => ?_) (AllReadyH.cons (o := { dst := some 98, op := _, type := _, pos := _, after := _, guard := _ }) rfl (fun K hK => ?_) AllReadyH.nil)
    · go_simp
      refine hK.out _ _ p6d (fun hHeld => ?_)
      clear hK K
      refine wpAnyH_ready (rs := [8]) (by kernel_rfl) (by simp) ?_
      refine AllReadyH.cons (o := { dst := some 98, op := _, type := _, pos := _, after := _, guard := _ }) rfl (fun K hK => ?_) AllReadyH.nil
      go_simp
      refine hK.out _ _ (cell_alloc' p6d _) (fun hHeld => ?_)
      clear hK K
      refine wpAnyH_ready (rs := [9]) (by kernel_rfl) (by simp) ?_
      refine AllReadyH.cons (o := { dst := some 99, op := _, type := _, pos := _, after := _, guard := _ }) rfl (fun K hK => ?_) AllReadyH.nil
      refine snoc_step rowAToken (b + 1) (by rfl) (.tmp 94) (.tmp 98) (by rfl) (.slice A9 n9 c9) L ⟨3, ⟨#[]⟩, lm⟩ [.int .i64 3, .string ⟨#[]⟩, .int .i64 lm] (by rfl) (by rfl) rfl hRd (by omega) (by have := hlim2.out; omega) ?_
      intro v8 w8 hR8 hb8 hg8
      obtain ⟨A8, n8, c8, rfl⟩ : ∃ A8 n8 c8, v8 = .slice A8 n8 c8 := by obtain ⟨A8, c8, e8⟩ := Kd.R_slice hR8; exact ⟨A8, _, c8, e8⟩
      have hK8 := hK9d.beside hRd hg8 (by omega)
      have hT8 := hTd.row hRd hg8 (by decide)
      have e6 := hT8.1.at 6 _ rfl
      refine hK.out _ _ e6 (fun hHeld => ?_)
      clear hK K
      have b08 := hK8.at 0 _ rfl
      have g08 := hK8.free 0 _ rfl
      have bl8 := hK8.lt
      refine wpAnyH_take (i := 10) (oi := { dst := some 100, op := _, type := _, pos := _, after := _, guard := _ }) (v := .pointer (some ⟨b, 0, none⟩)) rfl (by kernel_rfl) (by kernel_rfl) (by kernel_rfl) (fun _ _ _ h => h) (Or.inl ⟨by rfl, by (intro w hSw; (try dsimp only at hSw); first | (go_simp; done) | (go_simp; with_reducible rfl) | (go_simp; omega) | (go_simp; simp [*]; done))⟩) (by assumption) ?_; try simp only [Act.put, List.setIfInBounds_toArray, List.set_cons_zero, List.set_cons_succ]
      refine wpAnyH_take (i := 11) (oi := { dst := some 101, op := _, type := _, pos := _, after := _, guard := _ }) (v := .pointer (some ⟨b, 0, none⟩)) rfl (by kernel_rfl) (by kernel_rfl) (by kernel_rfl) (fun _ _ _ h => h) (Or.inl ⟨by rfl, by (intro w hSw; (try dsimp only at hSw); first | (go_simp; done) | (go_simp; with_reducible rfl) | (go_simp; omega) | (go_simp; simp [*]; done))⟩) (by assumption) ?_; try simp only [Act.put, List.setIfInBounds_toArray, List.set_cons_zero, List.set_cons_succ]
      refine wpAnyH_ready (rs := [12]) (by kernel_rfl) (by simp) ?_
      refine AllReadyH.cons (o := { dst := none, op := _, type := _, pos := _, after := _, guard := _ }) rfl (fun K hK => ?_) AllReadyH.nil
      go_simp
      refine hK.out _ _ (cell_other' e6 (by show w.heap.size ≠ b; omega) _) (fun hHeld => ?_)
      clear hK K
      refine wpAnyH_done (by kernel_rfl) ?_ _
      have hB8 : Below b V w8 := hb8.mono (by omega)
      have hKW : KeepW b V w8 := ⟨hg8.size, fun c t l _ ht hb => hb.row hRd hg8 ht⟩
      have hRf : Wrote b V (w8.setCell ⟨b, 0, none⟩ (.slice A8 n8 c8)) := ⟨Below.setCell hB8 (Nat.le_refl _) _, by simpa using hKW.1, fun c t l hc ht hb => (hKW.2 c t l hc ht hb).other (fun e => hc e.symm) _⟩
      have hWf : WrAt (w8.setCell ⟨b, 0, none⟩ (.slice A8 n8 c8)) b (L ++ [⟨3, ⟨#[]⟩, lm⟩]) := ⟨A8, n8, c8, hK8.set 0 _ (by simp), R_elder hR8 (by show b < b + 1; omega) _⟩
      replace hWf := Lib.hid hWf
      go_wp2_with fail
      go_end0
      exact ⟨rfl, by have := hWf.out; rw [← hL.out] at this; simpa using this, hBd.trans hRf⟩
    · go_simp
      refine hK.out _ _ (cell_alloc' p6d _) (fun hHeld => ?_)
      clear hK K
      have b0a := cell_alloc' b0d (.cells #[.int .i64 3, .string ⟨#[]⟩, .int .i64 lm] 119)
      refine wpAnyH_ready (rs := [4]) (by kernel_rfl) (by simp) ?_
      refine AllReadyH.cons (o := { dst := some 94, op := _, type := _, pos := _, after := _, guard := _ }) rfl (fun K hK => ?_) AllReadyH.nil
      go_simp
      refine hK.out _ _ (cell_alloc' p6d _) (fun hHeld => ?_)
      clear hK K
      refine wpAnyH_ready (rs := [9]) (by kernel_rfl) (by simp) ?_
      refine AllReadyH.cons (o := { dst := some 99, op := _, type := _, pos := _, after := _, guard := _ }) rfl (fun K hK => ?_) AllReadyH.nil
      refine snoc_step rowAToken (b + 1) (by rfl) (.tmp 94) (.tmp 98) (by rfl) (.slice A9 n9 c9) L ⟨3, ⟨#[]⟩, lm⟩ [.int .i64 3, .string ⟨#[]⟩, .int .i64 lm] (by rfl) (by rfl) rfl hRd (by omega) (by have := hlim2.out; omega) ?_
      intro v8 w8 hR8 hb8 hg8
      obtain ⟨A8, n8, c8, rfl⟩ : ∃ A8 n8 c8, v8 = .slice A8 n8 c8 := by obtain ⟨A8, c8, e8⟩ := Kd.R_slice hR8; exact ⟨A8, _, c8, e8⟩
      have hK8 := hK9d.beside hRd hg8 (by omega)
      have hT8 := hTd.row hRd hg8 (by decide)
      have e6 := hT8.1.at 6 _ rfl
      refine hK.out _ _ e6 (fun hHeld => ?_)
      clear hK K
      have b08 := hK8.at 0 _ rfl
      have g08 := hK8.free 0 _ rfl
      have bl8 := hK8.lt
      refine wpAnyH_take (i := 10) (oi := { dst := some 100, op := _, type := _, pos := _, after := _, guard := _ }) (v := .pointer (some ⟨b, 0, none⟩)) rfl (by kernel_rfl) (by kernel_rfl) (by kernel_rfl) (fun _ _ _ h => h) (Or.inl ⟨by rfl, by (intro w hSw; (try dsimp only at hSw); first | (go_simp; done) | (go_simp; with_reducible rfl) | (go_simp; omega) | (go_simp; simp [*]; done))⟩) (by assumption) ?_; try simp only [Act.put, List.setIfInBounds_toArray, List.set_cons_zero, List.set_cons_succ]
      refine wpAnyH_take (i := 11) (oi := { dst := some 101, op := _, type := _, pos := _, after := _, guard := _ }) (v := .pointer (some ⟨b, 0, none⟩)) rfl (by kernel_rfl) (by kernel_rfl) (by kernel_rfl) (fun _ _ _ h => h) (Or.inl ⟨by rfl, by (intro w hSw; (try dsimp only at hSw); first | (go_simp; done) | (go_simp; with_reducible rfl) | (go_simp; omega) | (go_simp; simp [*]; done))⟩) (by assumption) ?_; try simp only [Act.put, List.setIfInBounds_toArray, List.set_cons_zero, List.set_cons_succ]
      refine wpAnyH_ready (rs := [12]) (by kernel_rfl) (by simp) ?_
      refine AllReadyH.cons (o := { dst := none, op := _, type := _, pos := _, after := _, guard := _ }) rfl (fun K hK => ?_) AllReadyH.nil
      go_simp
      refine hK.out _ _ (cell_other' e6 (by show w.heap.size ≠ b; omega) _) (fun hHeld => ?_)
      clear hK K
      refine wpAnyH_done (by kernel_rfl) ?_ _
      have hB8 : Below b V w8 := hb8.mono (by omega)
      have hKW : KeepW b V w8 := ⟨hg8.size, fun c t l _ ht hb => hb.row hRd hg8 ht⟩
      have hRf : Wrote b V (w8.setCell ⟨b, 0, none⟩ (.slice A8 n8 c8)) := ⟨Below.setCell hB8 (Nat.le_refl _) _, by simpa using hKW.1, fun c t l hc ht hb => (hKW.2 c t l hc ht hb).other (fun e => hc e.symm) _⟩
      have hWf : WrAt (w8.setCell ⟨b, 0, none⟩ (.slice A8 n8 c8)) b (L ++ [⟨3, ⟨#[]⟩, lm⟩]) := ⟨A8, n8, c8, hK8.set 0 _ (by simp), R_elder hR8 (by show b < b + 1; omega) _⟩
      replace hWf := Lib.hid hWf
      go_wp2_with fail
      go_end0
      exact ⟨rfl, by have := hWf.out; rw [← hL.out] at this; simpa using this, hBd.trans hRf⟩
end Go.Proofs.YtijdghplfhfpaaaDoor.H

/- Scripts: copies of tests. -/
namespace Go.Proofs.YtijdghplfhfpaaaDoor.H
open Go.RowKit Go.Proofs.YtijdghplfhfpaaaDoorW.PrintWords Go.Proofs.YtijdghplfhfpaaaDoorW.PrintLast Go.Proofs.YtijdghplfhfpaaaDoor.U
set_option linter.unusedVariables false
set_option linter.unusedSimpArgs false
section
variable {ops : Array Oper} {rest : List Oper} {o : Oper} {a : Act} {Q : Exit → Act → World → Prop} {n : Nat}
/-- append(v, test), the test's rows made later than the row. -/
theorem snocT_list (base base2 : Nat) {W : World} (hgd : o.guard = none) (s x : Operand)
    (ho : o.op = .call { callee := .builtin .append, args := #[s, x], argTypes := #[105, 105] })
    (v : Value) (xs : List (TestN n)) (p : TestN n) (cs : List Value) (hs : a.eval s = v) (hx : a.eval x = .slice (some ⟨W.heap.size, 0, none⟩) 1 1)
    (hM : (kTest n).M W base2 (fun _ => True) p cs) (hb2 : base ≤ base2) (hvo : ∀ k, v.ownBlock = some k → k < base2)
    (HO : (kTest n).R 107 W base (fun _ => True) v xs) (hbase : base ≤ W.heap.size) (hl : (xs.length + 1) * 112 ≤ 140737488355328)
    (h : ∀ v1 w1, (kTest n).R 107 w1 base (fun _ => True) v1 (xs ++ [p]) → Below base W w1 → wpList Tryd.prog ops Q rest (a.put o.dst v1) w1) :
    wpList Tryd.prog ops Q (o :: rest) a (W.alloc (.cells cs.toArray 107)) :=
  Kd.R_append (kTest n) (w0 := W) base hgd s x 105 107 (.agg #[.int .i64 0, .int .i64 0, .int .i64 0, .slice none 0 0, .slice none 0 0, .bool false, .int .i64 0, .slice none 0 0]) 112 ho Tryd.underlying105 (by rw [kTest_sz]; kernel_rfl) (by rw [kTest_sz]; rfl) (by rw [kTest_sz]; decide) (by decide) v xs p cs (fun _ => True) (fun k => base2 ≤ k) hs hx
    (show (kTest n).M W base (fun k => base2 ≤ k) p cs from (kTest n).M_lower hb2 ((kTest n).M_mono (fun k hk => hk.2.1) ((kTest n).M_bound hM))) (fun k hk => ⟨trivial, fun he => by have := hvo k he.symm; omega⟩) (fun _ _ => trivial) HO (Below.refl _ _) hbase hl (fun v1 w1 hR hb _ _ => h v1 w1 hR hb)
end
theorem elder8 {α : Type} {d : Kd α} {e : Nat} {w1 : World} {base b : Nat} {v : Value} {xs : List α} {v0 v1 v2 v3 v4 v5 v6 v7 : Value} (h : d.R e w1 base (fun _ => True) v xs) (hb : b < base) :
    d.R e ((((((((w1.setCell ⟨b, 0, none⟩ v0).setCell ⟨b, 1, none⟩ v1).setCell ⟨b, 2, none⟩ v2).setCell ⟨b, 3, none⟩ v3).setCell ⟨b, 4, none⟩ v4).setCell ⟨b, 5, none⟩ v5).setCell ⟨b, 6, none⟩ v6).setCell ⟨b, 7, none⟩ v7) base (fun _ => True) v xs :=
  R_elder (R_elder (R_elder (R_elder (R_elder (R_elder (R_elder (R_elder h hb _) hb _) hb _) hb _) hb _) hb _) hb _) hb _
theorem below8 {w w1 : World} {N b : Nat} {v0 v1 v2 v3 v4 v5 v6 v7 : Value} (h : Below N w w1) (hb : N ≤ b) :
    Below N w ((((((((w1.setCell ⟨b, 0, none⟩ v0).setCell ⟨b, 1, none⟩ v1).setCell ⟨b, 2, none⟩ v2).setCell ⟨b, 3, none⟩ v3).setCell ⟨b, 4, none⟩ v4).setCell ⟨b, 5, none⟩ v5).setCell ⟨b, 6, none⟩ v6).setCell ⟨b, 7, none⟩ v7) :=
  (((((((h.setCell hb v0).setCell hb v1).setCell hb v2).setCell hb v3).setCell hb v4).setCell hb v5).setCell hb v6).setCell hb v7
/-- The contract of the copies of tests. -/
def CpT (n : Nat) : Prop := ∀ (t : TestN n) (cs : List Value) (w : World), (kTest n).K w t cs → wtT n t ≤ 1048576 →
  Calls Tryd.prog 110 #[.agg cs.toArray] w fun e w' => ∃ cs', e = .returned (.agg cs'.toArray) ∧ (kTest n).M w' w.heap.size (fun _ => True) t cs' ∧ Below w.heap.size w w'
theorem sum_mem {α : Type} (f : α → Nat) : ∀ (l : List α) (k : Nat) (hk : k < l.length), f l[k] ≤ (l.map f).sum
  | [], k, hk => by simp at hk
  | x :: l, 0, _ => by simp
  | x :: l, k + 1, hk => by
    have := sum_mem f l k (by simpa using hk)
    simp only [List.getElem_cons_succ, List.map_cons, List.sum_cons]
    omega
theorem wtT_pos : ∀ n (t : TestN n), 1 ≤ wtT n t
  | 0, t => nomatch t
  | n + 1, t => by show 1 ≤ 1 + _ + _ + _; omega
theorem sum_len {α : Type} (f : α → Nat) (hf : ∀ x, 1 ≤ f x) : ∀ l : List α, l.length ≤ (l.map f).sum
  | [] => by simp
  | x :: l => by have := sum_len f hf l; have := hf x; simp only [List.map_cons, List.sum_cons, List.length_cons]; omega
set_option maxHeartbeats 1000000 in
set_option maxRecDepth 100000 in
theorem tests_step (n : Nat) (IH : CpT n) : CpT (n + 1) := by
  intro t cs w hK hw
  obtain ⟨A1, c1, A2, c2, A3, c3, rfl, hlen, hr1, hr2, hr3⟩ := test_K hK
  clear hK
  obtain ⟨kd, mt, pt, nm, ks, ov, lm, ts⟩ := t
  simp only at hlen hr1 hr2 hr3 ⊢
  have hw' : 1 + nm.length + ks.length + (ts.map (wtT n)).sum ≤ 1048576 := hw
  have hts := sum_len (wtT n) (wtT_pos n) ts
  have hel := Lib.hid (sum_mem (wtT n) ts)
  have HN := Lib.hid (fun w hr => texts_calls A1 c1 nm w hr (by omega))
  have HS := Lib.hid (fun w hr => texts_calls A2 c2 ks w hr (by omega))
  have htl : ts.length ≤ 1048576 := by omega
  have hsum := Lib.hid (show (ts.map (wtT n)).sum ≤ 1048576 by omega)
  replace IH := Lib.hid IH
  replace hr1 := Lib.hid hr1
  replace hr2 := Lib.hid hr2
  replace hr3 := Lib.hid hr3
  clear hw hw' hts hlen
  have hK' : Blk ((w.alloc (.cells #[.int .i64 kd, .int .i64 mt, .int .i64 pt, .slice A1 nm.length c1, .slice A2 ks.length c2, .bool ov, .int .i64 lm, .slice A3 ts.length c3] 107)).alloc (.cells #[.int .i64 0, .int .i64 0, .int .i64 0, .slice none 0 0, .slice none 0 0, .bool false, .int .i64 0, .slice none 0 0] 107)) w.heap.size [.int .i64 kd, .int .i64 mt, .int .i64 pt, .slice A1 nm.length c1, .slice A2 ks.length c2, .bool ov, .int .i64 lm, .slice A3 ts.length c3] := (Blk.made w _ _).alloc _
  have hZ' : Blk ((w.alloc (.cells #[.int .i64 kd, .int .i64 mt, .int .i64 pt, .slice A1 nm.length c1, .slice A2 ks.length c2, .bool ov, .int .i64 lm, .slice A3 ts.length c3] 107)).alloc (.cells #[.int .i64 0, .int .i64 0, .int .i64 0, .slice none 0 0, .slice none 0 0, .bool false, .int .i64 0, .slice none 0 0] 107)) (w.heap.size + 1) [.int .i64 0, .int .i64 0, .int .i64 0, .slice none 0 0, .slice none 0 0, .bool false, .int .i64 0, .slice none 0 0] := Blk.made_at _ _ _ (by simp)
  have hb0 : Below w.heap.size w ((w.alloc (.cells #[.int .i64 kd, .int .i64 mt, .int .i64 pt, .slice A1 nm.length c1, .slice A2 ks.length c2, .bool ov, .int .i64 lm, .slice A3 ts.length c3] 107)).alloc (.cells #[.int .i64 0, .int .i64 0, .int .i64 0, .slice none 0 0, .slice none 0 0, .bool false, .int .i64 0, .slice none 0 0] 107)) := (by repeat (first | exact Below.refl _ _ | apply below_alloc | apply pw_below_drewN | apply below_drew1 | (refine Below.setCell ?_ (by first | (simp; done) | (simp; omega) | omega) _) ))
  have k3 := hK'.at 3 _ rfl
  have kl := hK'.lt
  go_enter Tryd.func110, Tryd.ntmps110
  go_wp2_with fail
  refine (HN.out _ (Kd.C_below hr1.out hb0)).mono ?_
  rintro e w1 ⟨v1, rfl, hR1, hb1⟩
  have hK1 := hK'.below hb1 hK'.lt
  have hZ1 := hZ'.below hb1 hZ'.lt
  have hB1 : Below w.heap.size w w1 := hb0.trans (hb1.mono hb0.size)
  have hz1 := hZ1.lt
  have hR1' := Kd.R_lower hR1 (show w.heap.size + 2 ≤ ((w.alloc (.cells #[.int .i64 kd, .int .i64 mt, .int .i64 pt, .slice A1 nm.length c1, .slice A2 ks.length c2, .bool ov, .int .i64 lm, .slice A3 ts.length c3] 107)).alloc (.cells #[.int .i64 0, .int .i64 0, .int .i64 0, .slice none 0 0, .slice none 0 0, .bool false, .int .i64 0, .slice none 0 0] 107)).heap.size by simp)
  obtain ⟨B1, d1, rfl⟩ := Kd.R_slice hR1'
  clear hK' hZ' hb0 k3 kl hb1 hR1
  have k3 := hK1.at 3 _ rfl
  have g3 := hK1.free 3 _ rfl
  have k4 := hK1.at 4 _ rfl
  have kl := hK1.lt
  have hK2 := hK1.set 3 (.slice B1 nm.length d1) (by simp)
  have hZ2 := hZ1.other (c := w.heap.size) (j := 3) (by omega) (.slice B1 nm.length d1)
  have hB2 : Below w.heap.size w (w1.setCell ⟨w.heap.size, 3, none⟩ (.slice B1 nm.length d1)) := Below.setCell hB1 (Nat.le_refl _) _
  have hR2 := R_elder hR1' (p := ⟨w.heap.size, 3, none⟩) (by show w.heap.size < w.heap.size + 2; omega) (.slice B1 nm.length d1)
  go_wp2_with fail
  refine (HS.out _ (Kd.C_below hr2.out hB2)).mono ?_
  rintro e w3 ⟨v2, rfl, hR3, hb3⟩
  have hK3 := hK2.below hb3 hK2.lt
  have hZ3 := hZ2.below hb3 hZ2.lt
  have hB3 : Below w.heap.size w w3 := hB2.trans (hb3.mono hB2.size)
  have hR23 := Kd.R_below hR2 hb3
  have hR3' := Kd.R_lower hR3 (show w.heap.size + 2 ≤ (w1.setCell ⟨w.heap.size, 3, none⟩ (.slice B1 nm.length d1)).heap.size by simp; omega)
  obtain ⟨B2, d2, rfl⟩ := Kd.R_slice hR3'
  have hz3 := hZ3.lt
  clear hK1 hZ1 hB1 hR1' hK2 hZ2 hB2 hR2 k3 g3 k4 kl hz1 hb3 hR3
  have k4 := hK3.at 4 _ rfl
  have g4 := hK3.free 4 _ rfl
  have kl := hK3.lt
  have hK4 := hK3.set 4 (.slice B2 ks.length d2) (by simp)
  have hZ4 := hZ3.other (c := w.heap.size) (j := 4) (by omega) (.slice B2 ks.length d2)
  have hB4 : Below w.heap.size w (w3.setCell ⟨w.heap.size, 4, none⟩ (.slice B2 ks.length d2)) := Below.setCell hB3 (Nat.le_refl _) _
  have hRn := R_elder hR23 (p := ⟨w.heap.size, 4, none⟩) (by show w.heap.size < w.heap.size + 2; omega) (.slice B2 ks.length d2)
  have hRk := R_elder hR3' (p := ⟨w.heap.size, 4, none⟩) (by show w.heap.size < w.heap.size + 2; omega) (.slice B2 ks.length d2)
  go_wp2_with fail
  generalize w3.setCell ⟨w.heap.size, 4, none⟩ (.slice B2 ks.length d2) = V at *
  clear k4 g4 kl hK3 hZ3 hB3 hR23 hR3'
  have hKl := hK4.lt
  have hZl := hZ4.lt
  go_loopw [3, 4] (fun v i wr => ∃ k : Nat, k ≤ ts.length ∧ i = .int .i64 k ∧ (kTest n).R 107 wr V.heap.size (fun _ => True) v (ts.take k) ∧ Below V.heap.size V wr) (fun _ i _ => ts.length - (intOf i).toNat)
  case atStart => exact ⟨0, Nat.zero_le _, rfl, Kd.R_nil _ _ _ _ _, Below.refl _ _⟩
  case round =>
    obtain ⟨k, hk, rfl, hR, hB⟩ := hrel
    have hBw : Below w.heap.size w wr := hB4.trans (hB.mono hB4.size)
    have hK5 := hK4.below hB hKl
    have hZ5 := hZ4.below hB hZl
    have hzz := hB.size
    have k7 := hK5.at 7 _ rfl
    have kl := hK5.lt
    by_cases hlt : k < ts.length
    · obtain ⟨ad, cx, e1, hKx, hx0, hxj⟩ := elem_at (Kd.C_below hr3.out hBw) (kTest_sz n) k hlt
      subst e1
      obtain ⟨x0, x1, x2, X3, l3, C3, X4, l4, C4, x5, x6, X7, l7, C7, rfl⟩ := testN_K hKx
      have q0 := hx0 _ rfl; have q1 := hxj 1 _ (by decide) rfl; have q2 := hxj 2 _ (by decide) rfl; have q3 := hxj 3 _ (by decide) rfl; have q4 := hxj 4 _ (by decide) rfl; have q5 := hxj 5 _ (by decide) rfl; have q6 := hxj 6 _ (by decide) rfl; have q7 := hxj 7 _ (by decide) rfl
      clear hx0 hxj
      have hts := Lib.hid (List.take_succ_eq_append_getElem hlt)
      have hwx : wtT n ts[k] ≤ 1048576 := Nat.le_trans (hel.out k hlt) hsum.out
      have HX := Lib.hid (IH.out ts[k] _ wr hKx hwx)
      generalize ts[k] = y at *
      have i0 : (0 : Int) ≤ (k : Int) := by omega
      have i1 : (k : Int) < (ts.length : Int) := by omega
      go_wp2_with fail
      refine HX.out.mono ?_
      rintro e w5 ⟨cy, rfl, hMy, hb5⟩
      obtain ⟨y0, y1, y2, Y3, m3, D3, Y4, m4, D4, y5, y6, Y7, m7, D7, rfl⟩ := testN_K ((kTest n).K_of_M hMy)
      have hz5 := hb5.size
      have hB5 : Below V.heap.size V w5 := hB.trans (hb5.mono hB.size)
      have hvo := Lib.hid (Kd.R_lt hR)
      have hR5 := Kd.R_below (Kd.R_below hR hb5) ((Below.refl _ _).alloc (Nat.le_refl _) (.cells #[.int .i64 y0, .int .i64 y1, .int .i64 y2, .slice Y3 m3 D3, .slice Y4 m4 D4, .bool y5, .int .i64 y6, .slice Y7 m7 D7] 107))
      have hM5 := Kd.M_below hMy ((Below.refl _ _).alloc (Nat.le_refl _) (.cells #[.int .i64 y0, .int .i64 y1, .int .i64 y2, .slice Y3 m3 D3, .slice Y4 m4 D4, .bool y5, .int .i64 y6, .slice Y7 m7 D7] 107))
      have hO := Blk.made w5 #[.int .i64 y0, .int .i64 y1, .int .i64 y2, .slice Y3 m3 D3, .slice Y4 m4 D4, .bool y5, .int .i64 y6, .slice Y7 m7 D7] 107
      have o0 := hO.at 0 _ rfl
      have o1 := hO.at 1 _ rfl
      have o2 := hO.at 2 _ rfl
      have o3 := hO.at 3 _ rfl
      have o4 := hO.at 4 _ rfl
      have o5 := hO.at 5 _ rfl
      have o6 := hO.at 6 _ rfl
      have o7 := hO.at 7 _ rfl
      have hlk : (ts.take k).length = k := by rw [List.length_take]; omega
      replace hlk := Lib.hid hlk
      go_wp2_with (at_builtin; refine snocT_list V.heap.size wr.heap.size rfl _ _ rfl u3 (ts.take k) y [.int .i64 y0, .int .i64 y1, .int .i64 y2, .slice Y3 m3 D3, .slice Y4 m4 D4, .bool y5, .int .i64 y6, .slice Y7 m7 D7] (by first | rfl | (simp [Act.eval]; done)) (by first | rfl | (simp [Act.eval]; done)) hM5 hzz hvo.out hR5 (by simp; omega) (by rw [hlk.out]; omega) ?_)
      intro v9 w9 hR9 hb9
      have hB9 : Below V.heap.size V w9 := (hB5.alloc hB5.size _).trans hb9
      go_wp2_with fail
      go_roundw
      case rel => exact ⟨k + 1, hlt, by go_num, by rw [hts.out]; exact hR9, hB9⟩
      case measure => simp [intOf]; omega
    · obtain rfl : k = ts.length := by omega
      have i1 : ¬ (ts.length : Int) < (ts.length : Int) := by omega
      rw [List.take_length] at hR
      obtain ⟨B3, d3, rfl⟩ := Kd.R_slice hR
      have k0 := hK5.at 0 _ rfl
      have k1 := hK5.at 1 _ rfl
      have k2 := hK5.at 2 _ rfl
      have k3 := hK5.at 3 _ rfl
      have k4 := hK5.at 4 _ rfl
      have k5 := hK5.at 5 _ rfl
      have k6 := hK5.at 6 _ rfl
      have g7 := hK5.free 7 _ rfl
      have z0 := (hZ5).at 0 _ rfl
      have z1 := (hZ5).at 1 _ rfl
      have z2 := (hZ5).at 2 _ rfl
      have z3 := (hZ5).at 3 _ rfl
      have z4 := (hZ5).at 4 _ rfl
      have z5 := (hZ5).at 5 _ rfl
      have z6 := (hZ5).at 6 _ rfl
      have z7 := (hZ5).at 7 _ rfl
      have f0 := (hZ5).free 0 _ rfl
      have f1 := (hZ5).free 1 _ rfl
      have f2 := (hZ5).free 2 _ rfl
      have f3 := (hZ5).free 3 _ rfl
      have f4 := (hZ5).free 4 _ rfl
      have f5 := (hZ5).free 5 _ rfl
      have f6 := (hZ5).free 6 _ rfl
      have f7 := (hZ5).free 7 _ rfl
      have fl := (hZ5).lt
      have hF1 := R_elder (Kd.R_below hRn hB) (p := ⟨w.heap.size, 7, none⟩) (by show w.heap.size < w.heap.size + 2; omega) (.slice B3 ts.length d3)
      have hF2 := R_elder (Kd.R_below hRk hB) (p := ⟨w.heap.size, 7, none⟩) (by show w.heap.size < w.heap.size + 2; omega) (.slice B3 ts.length d3)
      have hF3 := R_elder hR (p := ⟨w.heap.size, 7, none⟩) (by show w.heap.size < V.heap.size; omega) (.slice B3 ts.length d3)
      have hF4 : Below w.heap.size w (wr.setCell ⟨w.heap.size, 7, none⟩ (.slice B3 ts.length d3)) := Below.setCell hBw (Nat.le_refl _) _
      go_wp2_with fail
      refine bodyPost_ret (v := .agg #[.int .i64 kd, .int .i64 mt, .int .i64 pt, .slice B1 nm.length d1, .slice B2 ks.length d2, .bool ov, .int .i64 lm, .slice B3 ts.length d3]) (by simp [results, Tryd.results110, go_sem, *]) rfl ⟨[.int .i64 kd, .int .i64 mt, .int .i64 pt, .slice B1 nm.length d1, .slice B2 ks.length d2, .bool ov, .int .i64 lm, .slice B3 ts.length d3], rfl, ?_, below8 hF4 (Nat.le_succ _)⟩
      exact test_MI (t := ⟨kd, mt, pt, nm, ks, ov, lm, ts⟩) (Kd.R_lower (elder8 hF1 (by omega)) (by omega)) (Kd.R_lower (elder8 hF2 (by omega)) (by omega)) (Kd.R_lower (elder8 hF3 (by omega)) (by omega))
theorem tests_calls : ∀ n, CpT n
  | 0 => fun t => nomatch t
  | n + 1 => tests_step n (tests_calls n)
end Go.Proofs.YtijdghplfhfpaaaDoor.H

/- Scripts: the writer's test, whole. -/
namespace Go.Proofs.YtijdghplfhfpaaaDoor.H
open Go.RowKit Go.Proofs.YtijdghplfhfpaaaDoorW.PrintWords Go.Proofs.YtijdghplfhfpaaaDoorW.PrintLast Go.Proofs.YtijdghplfhfpaaaDoor.U
set_option linter.unusedVariables false
set_option linter.unusedSimpArgs false
theorem und_test {n : Nat} {w : World} {b : Nat} {t : TestF (TestN n)} {cs : List Value} (h : UndK (kTestF (kTest n)) w b t cs) :
    ∃ A1 c1 A2 c2 A3 c3, cs = [.int .i64 t.kind, .int .i64 t.mt, .int .i64 t.part, .slice A1 t.names.length c1, .slice A2 t.keys.length c2, .bool t.over, .int .i64 t.limit, .slice A3 t.tests.length c3] ∧ Und Kd.string w b A1 t.names ∧ Und Kd.string w b A2 t.keys ∧ Und (kTest n) w b A3 t.tests := by
  obtain ⟨w0, h1, h2, h3⟩ := h
  obtain ⟨A1, c1, A2, c2, A3, c3, rfl, _, r1, r2, r3⟩ := test_K h3
  exact ⟨A1, c1, A2, c2, A3, c3, rfl, ⟨w0, h1, h2, r1⟩, ⟨w0, h1, h2, r2⟩, ⟨w0, h1, h2, r3⟩⟩
theorem chk_zero {α : Type} {f : α → Int → Int} {t : TestF α} {dp : Int} (h : chkT f t dp = 0) : 1 ≤ t.kind ∧ t.kind ≤ 10 ∧ dp ≤ 6 ∧ formT t ∧ errs (fun x => f x (dp + 1)) t.tests = 0 := by
  unfold chkT at h
  split at h
  · cases h
  · split at h
    · cases h
    · split at h
      · exact ⟨by omega, by omega, by omega, by assumption, h⟩
      · cases h
theorem writeTest_step (n : Nat) (IH : WtT n) : WtT (n + 1) := by
  intro t cs dp b l0 w hK hc hT hW hlim
  obtain ⟨A1, c1, A2, c2, A3, c3, rfl, r1, r2, r3⟩ := und_test hK
  obtain ⟨kd, mt, pt, nm, ks, ov, lm, ts⟩ := t
  obtain ⟨k1, k2, hd, hf, he⟩ := chk_zero (show chkT (checkT n) _ dp = 0 from hc)
  simp only at r1 r2 r3 k1 k2 he ⊢
  have hlim' : l0.length + 8 * (1 + nm.length + ks.length + (ts.map (wtT n)).sum) ≤ 1073741824 := hlim
  show Calls _ _ _ w fun e w' => e = .returned (.tuple #[]) ∧ WrAt w' b (l0 ++ shwT (showT n) ⟨kd, mt, pt, nm, ks, ov, lm, ts⟩) ∧ Wrote b w w'
  unfold shwT
  simp only
  simp only [formT] at hf
  obtain ⟨f1, f2, f3, f4, f5⟩ := hf
  rcases (by omega : kd ≤ 2 ∨ kd = 3 ∨ kd = 4 ∨ kd = 5 ∨ kd = 6 ∨ kd = 7 ∨ kd = 8 ∨ kd = 9 ∨ kd = 10) with h | h | h | h | h | h | h | h | h
  · rw [if_neg (by omega), if_neg (by omega), if_neg (by omega), if_neg (by omega), if_neg (by omega), if_neg (by omega)]
    exact wt_A n A1 c1 A2 c2 A3 c3 kd mt pt nm ks ov lm ts b l0 w hT hW k1 h (by omega)
  · rw [if_pos h] at f5 ⊢
    have hs := sum_mem (wtT n) ts 0 (by omega)
    have hx : ts.flatMap (showT n) = showT n (ts[0]'(by omega)) := by
      match ts, f5 with
      | [x], _ => simp
    rw [hx]
    exact wt_N n A1 c1 A2 c2 A3 c3 kd mt pt nm ks ov lm ts b l0 w hT hW (by omega) (by omega) IH dp (by omega) (errs_all he 0 (by omega)) r3 (by omega)
  · rw [if_neg (by omega), if_pos (by omega)]
    exact wt_L4 n A1 c1 A2 c2 A3 c3 kd mt pt nm ks ov lm ts b l0 w hT hW (by omega) (by omega) IH dp he r3 (by omega)
  · rw [if_neg (by omega), if_pos (by omega)]
    exact wt_L5 n A1 c1 A2 c2 A3 c3 kd mt pt nm ks ov lm ts b l0 w hT hW (by omega) (by omega) IH dp he r3 (by omega)
  · rw [if_pos (by omega)] at f1 f2
    rw [if_neg (by omega), if_neg (by omega), if_pos h]
    exact wt_H n A1 c1 A2 c2 A3 c3 kd mt pt nm ks ov lm ts b l0 w hT hW (by omega) (by omega) f2.2.1 f2.2.2 r1 f1 r2 f2.1 (by omega)
  · rw [if_pos (by omega)] at f1 f2 f3
    rw [if_neg (by omega), if_neg (by omega), if_neg (by omega), if_pos (by omega)]
    exact wt_D7 n A1 c1 A2 c2 A3 c3 kd mt pt nm ks ov lm ts b l0 w hT hW (by omega) (by omega) f2.2.1 f2.2.2 f3.1 f3.2 r1 f1 r2 f2.1 (by omega)
  · rw [if_pos (by omega)] at f1 f2 f3
    rw [if_neg (by omega), if_neg (by omega), if_neg (by omega), if_pos (by omega)]
    exact wt_D8 n A1 c1 A2 c2 A3 c3 kd mt pt nm ks ov lm ts b l0 w hT hW (by omega) (by omega) f2.2.1 f2.2.2 f3.1 f3.2 r1 f1 r2 f2.1 (by omega)
  · rw [if_pos (by omega)] at f1
    rw [if_neg (by omega), if_neg (by omega), if_neg (by omega), if_neg (by omega), if_pos h]
    exact wt_E n A1 c1 A2 c2 A3 c3 kd mt pt nm ks ov lm ts b l0 w hT hW (by omega) (by omega) r1 f1 (by omega)
  · rw [if_neg (by omega), if_neg (by omega), if_neg (by omega), if_neg (by omega), if_neg (by omega), if_pos h]
    exact wt_S n A1 c1 A2 c2 A3 c3 kd mt pt nm ks ov lm ts b l0 w hT hW (by omega) (by omega) (by omega)
theorem writeTest_calls : ∀ n, WtT n
  | 0 => fun t => nomatch t
  | n + 1 => writeTest_step n (writeTest_calls n)
end Go.Proofs.YtijdghplfhfpaaaDoor.H

/- Scripts: the reference's test shown, whole. -/
namespace Go.Proofs.YtijdghplfhfpaaaDoor.H
open Go.RowKit Go.Proofs.YtijdghplfhfpaaaDoorW.PrintWords Go.Proofs.YtijdghplfhfpaaaDoorW.PrintLast Go.Proofs.YtijdghplfhfpaaaDoor.U
set_option linter.unusedVariables false
set_option linter.unusedSimpArgs false
theorem testShown_step (n : Nat) (IH : StT n) : StT (n + 1) := by
  intro t cs dp w hK hc hlim
  obtain ⟨A1, c1, A2, c2, A3, c3, rfl, _, r1, r2, r3⟩ := test_K hK
  obtain ⟨kd, mt, pt, nm, ks, ov, lm, ts⟩ := t
  obtain ⟨k1, k2, hd, hf, he⟩ := chk_zero (show chkT (checkT n) _ dp = 0 from hc)
  simp only at r1 r2 r3 k1 k2 he ⊢
  have hlim' : 1 + nm.length + ks.length + (ts.map (wtT n)).sum ≤ 1048576 := hlim
  show Calls _ _ _ w fun e w' => ∃ v, e = .returned v ∧ Kd.R kAToken 119 w' w.heap.size (fun _ => True) v (shwT (showT n) ⟨kd, mt, pt, nm, ks, ov, lm, ts⟩) ∧ Below w.heap.size w w'
  unfold shwT
  simp only
  simp only [formT] at hf
  obtain ⟨f1, f2, f3, f4, f5⟩ := hf
  rcases (by omega : kd ≤ 2 ∨ kd = 3 ∨ kd = 4 ∨ kd = 5 ∨ kd = 6 ∨ kd = 7 ∨ kd = 8 ∨ kd = 9 ∨ kd = 10) with h | h | h | h | h | h | h | h | h
  · rw [if_neg (by omega)] at f1 f2 f3 f5
    rw [if_neg (by omega)] at f5
    rw [if_neg (by omega), if_neg (by omega), if_neg (by omega), if_neg (by omega), if_neg (by omega), if_neg (by omega)]
    exact st_A n A1 c1 A2 c2 A3 c3 kd mt pt nm ks ov lm ts w k1 h (by omega) (by omega) (by omega) (by omega) (by omega)
  · rw [if_pos h] at f5 ⊢
    have hs := sum_mem (wtT n) ts 0 (by omega)
    have hx : ts.flatMap (showT n) = showT n (ts[0]'(by omega)) := by
      match ts, f5 with
      | [x], _ => simp
    rw [hx]
    exact st_N n A1 c1 A2 c2 A3 c3 kd mt pt nm ks ov lm ts w (by omega) (by omega) IH dp (by omega) (errs_all he 0 (by omega)) r3 (by omega)
  · rw [if_neg (by omega)] at f5 ⊢
    rw [if_pos (by omega)] at f5 ⊢
    exact st_L n A1 c1 A2 c2 A3 c3 kd mt pt nm ks ov lm ts w (by omega) (by omega) IH dp (by omega) he r3 (by omega)
  · rw [if_neg (by omega)] at f5 ⊢
    rw [if_pos (by omega)] at f5 ⊢
    exact st_L n A1 c1 A2 c2 A3 c3 kd mt pt nm ks ov lm ts w (by omega) (by omega) IH dp (by omega) he r3 (by omega)
  · rw [if_pos (by omega)] at f1 f2
    rw [if_neg (by omega)] at f3 f5
    rw [if_neg (by omega)] at f5
    rw [if_neg (by omega), if_neg (by omega), if_pos h]
    exact st_H n A1 c1 A2 c2 A3 c3 kd mt pt nm ks ov lm ts w (by omega) (by omega) f2.2.1 f2.2.2 (by omega) (by omega) f1 f2.1 r1 r2 (by omega)
  · rw [if_pos (by omega)] at f1 f2 f3
    rw [if_neg (by omega)] at f5
    rw [if_neg (by omega)] at f5
    rw [if_neg (by omega), if_neg (by omega), if_neg (by omega), if_pos (by omega)]
    exact st_D n A1 c1 A2 c2 A3 c3 kd mt pt nm ks ov lm ts w (by omega) (by omega) f2.2.1 f2.2.2 f3.1 f3.2 (by omega) f1 f2.1 r1 r2 (by omega)
  · rw [if_pos (by omega)] at f1 f2 f3
    rw [if_neg (by omega)] at f5
    rw [if_neg (by omega)] at f5
    rw [if_neg (by omega), if_neg (by omega), if_neg (by omega), if_pos (by omega)]
    exact st_D n A1 c1 A2 c2 A3 c3 kd mt pt nm ks ov lm ts w (by omega) (by omega) f2.2.1 f2.2.2 f3.1 f3.2 (by omega) f1 f2.1 r1 r2 (by omega)
  · rw [if_pos (by omega)] at f1
    rw [if_neg (by omega)] at f2 f3 f5
    rw [if_neg (by omega)] at f5
    rw [if_neg (by omega), if_neg (by omega), if_neg (by omega), if_neg (by omega), if_pos h]
    exact st_E n A1 c1 A2 c2 A3 c3 kd mt pt nm ks ov lm ts w (by omega) (by omega) (by omega) (by omega) (by omega) f1 (by omega) r1 (by omega)
  · rw [if_neg (by omega)] at f1 f2 f3 f5
    rw [if_neg (by omega)] at f5
    rw [if_neg (by omega), if_neg (by omega), if_neg (by omega), if_neg (by omega), if_neg (by omega), if_pos h]
    exact st_S n A1 c1 A2 c2 A3 c3 kd mt pt nm ks ov lm ts w (by omega) (by omega) (by omega) (by omega) (by omega) (by omega) (by omega)
theorem testShown_calls : ∀ n, StT n
  | 0 => fun t => nomatch t
  | n + 1 => testShown_step n (testShown_calls n)
end Go.Proofs.YtijdghplfhfpaaaDoor.H
