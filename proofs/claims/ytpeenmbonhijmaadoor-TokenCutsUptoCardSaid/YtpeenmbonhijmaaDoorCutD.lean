/- Scripts cut into tokens: numbers: the walk of the cutter's number. -/
import Derived.Test.YtpeenmbonhijmaaDoorCutC
namespace Go.Proofs.YtpeenmbonhijmaaDoor.H
open Go.RowKit Go.Proofs.YtpeenmbonhijmaaDoorW.PrintWords Go.Proofs.YtpeenmbonhijmaaDoorW.PrintLast Go.Proofs.YtpeenmbonhijmaaDoorW.PrintMore Go.Proofs.YtpeenmbonhijmaaDoor.U
set_option linter.unusedVariables false
set_option linter.unusedSimpArgs false
theorem span_all (p : Int → Bool) (s : ByteArray) (i : Nat) : ∀ b ∈ (s.extract i (spanEnd p s i)).data.toList, p b.toNat = true := by
  intro b hb
  rw [Lib.extract_data] at hb
  obtain ⟨k, hk, rfl⟩ := List.mem_iff_getElem.1 hb
  rw [List.length_take, List.length_drop] at hk
  rw [List.getElem_take, List.getElem_drop, Array.getElem_toList]
  exact (span_in p s _ i rfl (i + k) (by omega) (by omega)).2
theorem bytes_len (x : ByteArray) : x.data.toList.length = x.size := by simp
theorem nx_byte (s : ByteArray) (i : Nat) : 0 ≤ nx s i ∧ nx s i ≤ 255 := by
  by_cases h : i < s.size
  · rw [nx_in h]; have := s[i].toNat_lt; omega
  · rw [nx_out h]; omega
/-- What the cutter's number hands back. -/
def PostNum (w : World) (b : Nat) (s : ByteArray) (R : Int × Int × Nat) (e : Ending) (w' : World) : Prop :=
  e = .returned (.tuple #[.int .i64 R.2.1, .int .i64 R.1]) ∧ Cur w' b s R.2.2 ∧ w.grownBy w' (some b)
theorem num_bad {s : ByteArray} {i e sh e2 : Nat} (he : spanEnd digitB s i = e) (hs : shiftAt s e = (sh, e2)) (h : letterB (nx s e2) = true ∨ digitB (nx s e2) = true) : numAt s i = (3, 0, e2) := by
  rw [numAt, he, hs, if_pos h]
theorem num_big {s : ByteArray} {i e sh e2 v : Nat} (hv : numV (s.extract i e).data.toList = v) (he : spanEnd digitB s i = e) (hs : shiftAt s e = (sh, e2)) (h : ¬ (letterB (nx s e2) = true ∨ digitB (nx s e2) = true)) (h2 : 2147483647 < v * 2 ^ sh) : numAt s i = (6, 0, e2) := by
  subst hv; rw [numAt, he, hs, if_neg h, if_pos h2]
theorem num_ok {s : ByteArray} {i e sh e2 v : Nat} (hv : numV (s.extract i e).data.toList = v) (he : spanEnd digitB s i = e) (hs : shiftAt s e = (sh, e2)) (h : ¬ (letterB (nx s e2) = true ∨ digitB (nx s e2) = true)) (h2 : ¬ 2147483647 < v * 2 ^ sh) : numAt s i = (0, ((v * 2 ^ sh : Nat) : Int), e2) := by
  subst hv; rw [numAt, he, hs, if_neg h, if_neg h2]
set_option maxHeartbeats 8000000 in
set_option maxRecDepth 100000 in
theorem cnumber_calls (b : Nat) (s : ByteArray) (i : Nat) (w : World) (hc : Cur w b s i) (hi : i < s.size) (hd : digitB s[i].toNat = true) (hs : s.size ≤ 1048576) (hE : ErrAt w 5) (hg : 5 < b) :
    Calls Tryd.prog 142 #[.pointer (some ⟨b, 0, none⟩)] w (PostNum w b s (numAt s i)) := by
  generalize hR : numAt s i = R
  obtain ⟨r1, r2, r3⟩ := R
  have ltb := hc.lt
  have HD := Lib.hid (fun W hc => spanDigit_calls b s i W hc (by omega) (by omega))
  have he0 := span_le digitB s i (by omega)
  have he1 : i < spanEnd digitB s i := by rw [spanEnd_yes digitB hi hd]; have := span_ge digitB s (i + 1) (by omega); omega
  have hall := span_all digitB s i
  generalize hEE : spanEnd digitB s i = e at *
  have hne : (s.extract i e).data.toList ≠ [] := fun h => by
    have h2 : (s.extract i e).data.toList.length = 0 := by rw [h]; rfl
    have h3 := bytes_len (s.extract i e)
    rw [ext_size he0] at h3; omega
  have HA := fun W hE => atoi_calls (s.extract i e) W (by rw [ext_size he0]; omega) hne hall hE
  have hEx : ∀ W, w.grownBy W (some b) → ErrAt W 5 := fun W h => by
    obtain ⟨ev, hv, hev⟩ := hE
    exact ⟨ev, grown_cell h hv (by omega) (by simp; omega), hev⟩
  have HN := Lib.hid (fun W hc => cnext_cur b s e W hc he0 (by omega))
  generalize hV : numV (s.extract i e).data.toList = v at *
  have hV := Lib.hid hV
  have HA := Lib.hid HA
  have hEx := Lib.hid hEx
  clear hE hne hall hd
  go_enter Tryd.func142, Tryd.ntmps142
  go_wp2_with fail
  refine (HD.out _ hc).mono ?_
  rintro e' w1 ⟨rfl, hc1, g1⟩
  go_wp2_with fail
  refine (HA.out _ (hEx.out _ g1)).mono ?_
  intro e' w2 hw2
  obtain ⟨hp, hb2⟩ := hw2
  have hc2 := hc1.below hb2 hc1.lt
  have g2 := grown_more g1 hb2 g1.size
  clear hEx HA HD hc1 g1 hb2
  have hsv : (shiftAt s e = (10, e + 1) ∧ e < s.size ∧ (nx s e = 75 ∨ nx s e = 107)) ∨ (shiftAt s e = (20, e + 1) ∧ e < s.size ∧ (nx s e = 77 ∨ nx s e = 109)) ∨ (shiftAt s e = (0, e) ∧ nx s e ≠ 75 ∧ nx s e ≠ 107 ∧ nx s e ≠ 77 ∧ nx s e ≠ 109) := by
    unfold shiftAt
    by_cases h1 : nx s e = 75 ∨ nx s e = 107
    · rw [if_pos h1]
      exact .inl ⟨rfl, nx_lt (by omega), h1⟩
    · rw [if_neg h1]
      by_cases h2 : nx s e = 77 ∨ nx s e = 109
      · rw [if_pos h2]
        exact .inr (.inl ⟨rfl, nx_lt (by omega), h2⟩)
      · rw [if_neg h2]
        exact .inr (.inr ⟨rfl, by omega, by omega, by omega, by omega⟩)
  rcases hp with ⟨hn, rfl⟩ | ⟨hn, t, N, rfl⟩
  · rcases hsv with ⟨hsh, hel, hx⟩ | ⟨hsh, hel, hx⟩ | ⟨hsh, h75, h107, h77, h109⟩
    · rcases hx with hx | hx
      · rw [hx] at HN
        have he2 : e + 1 ≤ s.size := hel
        clear hx
        go_wp2_with fail
        refine (HN.out _ hc2).mono ?_
        rintro e w3 ⟨rfl, hc3, g3⟩
        have hcc := hc3
        obtain ⟨c0, c1, f0, f1, lt3⟩ := hcc
        have hc3' := hc3.setI ((e : Int) + 1) (e + 1) (by omega)
        have gg3 := grown_set (grown_trans g2 g3) 1 (.int .i64 ((e : Int) + 1))
        have h3 := fun h => num_bad (s := s) (i := i) (e := e) (sh := 10) (e2 := e + 1) hEE hsh h
        have h6 := fun h h' => num_big (s := s) (i := i) (e := e) (sh := 10) (e2 := e + 1) hV.out hEE hsh h h'
        have h0 := fun h h' => num_ok (s := s) (i := i) (e := e) (sh := 10) (e2 := e + 1) hV.out hEE hsh h h'
        rw [hR] at h3 h6 h0
        have HN2 := Lib.hid (fun W hc => cnext_cur b s (e + 1) W hc he2 (by omega))
        have hby := nx_byte s (e + 1)
        have HLt := fun w => letter_calls (nx s (e + 1)) w hby.1 hby.2
        have HDg := fun w => digit_calls (nx s (e + 1)) w hby.1 hby.2
        clear hby hsh hEE
        generalize nx s (e + 1) = y at *
        generalize letterB y = lb at *
        generalize digitB y = db at *
        cases lb with
        | true =>
          obtain ⟨rfl, h_⟩ := Prod.mk.inj (h3 (.inl rfl))
          obtain ⟨rfl, rfl⟩ := Prod.mk.inj h_
          clear h3 h6 h0 h_
          have HLt := Lib.hid HLt
          go_wp2_with fail
          refine (HN2.out _ hc3').mono ?_
          rintro e w4 ⟨rfl, hc4, g4⟩
          go_wp2_with fail
          refine (HLt.out _).mono ?_
          rintro e w4' ⟨rfl, rfl⟩
          go_wp2_with fail
          go_ret2
          exact ⟨rfl, hc4, grown_trans gg3 g4⟩
        | false =>
          cases db with
          | true =>
            obtain ⟨rfl, h_⟩ := Prod.mk.inj (h3 (.inr rfl))
            obtain ⟨rfl, rfl⟩ := Prod.mk.inj h_
            clear h3 h6 h0 h_
            have HLt := Lib.hid HLt
            have HDg := Lib.hid HDg
            go_wp2_with fail
            refine (HN2.out _ hc3').mono ?_
            rintro e w4 ⟨rfl, hc4, g4⟩
            go_wp2_with fail
            refine (HLt.out _).mono ?_
            rintro e w4' ⟨rfl, rfl⟩
            go_wp2_with fail
            refine (HN2.out _ hc4).mono ?_
            rintro e w5 ⟨rfl, hc5, g5⟩
            go_wp2_with fail
            refine (HDg.out _).mono ?_
            rintro e w5' ⟨rfl, rfl⟩
            go_wp2_with fail
            go_ret2
            exact ⟨rfl, hc5, grown_trans gg3 (grown_trans g4 g5)⟩
          | false =>
            have h6 := h6 (by simp)
            have h0 := h0 (by simp)
            clear h3
            have HLt := Lib.hid HLt
            have HDg := Lib.hid HDg
            go_wp2_with fail
            refine (HN2.out _ hc3').mono ?_
            rintro e w4 ⟨rfl, hc4, g4⟩
            go_wp2_with fail
            refine (HLt.out _).mono ?_
            rintro e w4' ⟨rfl, rfl⟩
            go_wp2_with fail
            refine (HN2.out _ hc4).mono ?_
            rintro e w5 ⟨rfl, hc5, g5⟩
            go_wp2_with fail
            refine (HDg.out _).mono ?_
            rintro e w5' ⟨rfl, rfl⟩
            have gg5 := grown_trans gg3 (grown_trans g4 g5)
            by_cases hb : 2097151 < v
            · obtain ⟨rfl, h_⟩ := Prod.mk.inj (h6 (by omega))
              obtain ⟨rfl, rfl⟩ := Prod.mk.inj h_
              clear h6 h0 h_
              have hb' : (2097151 : Int) < (v : Int) := by omega
              go_wp2_with fail
              go_ret2
              exact ⟨rfl, hc5, gg5⟩
            · obtain ⟨rfl, h_⟩ := Prod.mk.inj (h0 (by omega))
              obtain ⟨rfl, rfl⟩ := Prod.mk.inj h_
              clear h6 h0 h_
              have hb' : ¬ (2097151 : Int) < (v : Int) := by omega
              go_wp2_with fail
              go_ret2
              refine ⟨?_, hc5, gg5⟩
              have hpw : ((v * 2 ^ 10 : Nat) : Int) = (v : Int) * 1024 := by omega
              simp [hpw]
      · rw [hx] at HN
        have he2 : e + 1 ≤ s.size := hel
        clear hx
        go_wp2_with fail
        refine (HN.out _ hc2).mono ?_
        rintro e w3 ⟨rfl, hc3, g3⟩
        have hcc := hc3
        obtain ⟨c0, c1, f0, f1, lt3⟩ := hcc
        have hc3' := hc3.setI ((e : Int) + 1) (e + 1) (by omega)
        have gg3 := grown_set (grown_trans g2 g3) 1 (.int .i64 ((e : Int) + 1))
        have h3 := fun h => num_bad (s := s) (i := i) (e := e) (sh := 10) (e2 := e + 1) hEE hsh h
        have h6 := fun h h' => num_big (s := s) (i := i) (e := e) (sh := 10) (e2 := e + 1) hV.out hEE hsh h h'
        have h0 := fun h h' => num_ok (s := s) (i := i) (e := e) (sh := 10) (e2 := e + 1) hV.out hEE hsh h h'
        rw [hR] at h3 h6 h0
        have HN2 := Lib.hid (fun W hc => cnext_cur b s (e + 1) W hc he2 (by omega))
        have hby := nx_byte s (e + 1)
        have HLt := fun w => letter_calls (nx s (e + 1)) w hby.1 hby.2
        have HDg := fun w => digit_calls (nx s (e + 1)) w hby.1 hby.2
        clear hby hsh hEE
        generalize nx s (e + 1) = y at *
        generalize letterB y = lb at *
        generalize digitB y = db at *
        cases lb with
        | true =>
          obtain ⟨rfl, h_⟩ := Prod.mk.inj (h3 (.inl rfl))
          obtain ⟨rfl, rfl⟩ := Prod.mk.inj h_
          clear h3 h6 h0 h_
          have HLt := Lib.hid HLt
          go_wp2_with fail
          refine (HN2.out _ hc3').mono ?_
          rintro e w4 ⟨rfl, hc4, g4⟩
          go_wp2_with fail
          refine (HLt.out _).mono ?_
          rintro e w4' ⟨rfl, rfl⟩
          go_wp2_with fail
          go_ret2
          exact ⟨rfl, hc4, grown_trans gg3 g4⟩
        | false =>
          cases db with
          | true =>
            obtain ⟨rfl, h_⟩ := Prod.mk.inj (h3 (.inr rfl))
            obtain ⟨rfl, rfl⟩ := Prod.mk.inj h_
            clear h3 h6 h0 h_
            have HLt := Lib.hid HLt
            have HDg := Lib.hid HDg
            go_wp2_with fail
            refine (HN2.out _ hc3').mono ?_
            rintro e w4 ⟨rfl, hc4, g4⟩
            go_wp2_with fail
            refine (HLt.out _).mono ?_
            rintro e w4' ⟨rfl, rfl⟩
            go_wp2_with fail
            refine (HN2.out _ hc4).mono ?_
            rintro e w5 ⟨rfl, hc5, g5⟩
            go_wp2_with fail
            refine (HDg.out _).mono ?_
            rintro e w5' ⟨rfl, rfl⟩
            go_wp2_with fail
            go_ret2
            exact ⟨rfl, hc5, grown_trans gg3 (grown_trans g4 g5)⟩
          | false =>
            have h6 := h6 (by simp)
            have h0 := h0 (by simp)
            clear h3
            have HLt := Lib.hid HLt
            have HDg := Lib.hid HDg
            go_wp2_with fail
            refine (HN2.out _ hc3').mono ?_
            rintro e w4 ⟨rfl, hc4, g4⟩
            go_wp2_with fail
            refine (HLt.out _).mono ?_
            rintro e w4' ⟨rfl, rfl⟩
            go_wp2_with fail
            refine (HN2.out _ hc4).mono ?_
            rintro e w5 ⟨rfl, hc5, g5⟩
            go_wp2_with fail
            refine (HDg.out _).mono ?_
            rintro e w5' ⟨rfl, rfl⟩
            have gg5 := grown_trans gg3 (grown_trans g4 g5)
            by_cases hb : 2097151 < v
            · obtain ⟨rfl, h_⟩ := Prod.mk.inj (h6 (by omega))
              obtain ⟨rfl, rfl⟩ := Prod.mk.inj h_
              clear h6 h0 h_
              have hb' : (2097151 : Int) < (v : Int) := by omega
              go_wp2_with fail
              go_ret2
              exact ⟨rfl, hc5, gg5⟩
            · obtain ⟨rfl, h_⟩ := Prod.mk.inj (h0 (by omega))
              obtain ⟨rfl, rfl⟩ := Prod.mk.inj h_
              clear h6 h0 h_
              have hb' : ¬ (2097151 : Int) < (v : Int) := by omega
              go_wp2_with fail
              go_ret2
              refine ⟨?_, hc5, gg5⟩
              have hpw : ((v * 2 ^ 10 : Nat) : Int) = (v : Int) * 1024 := by omega
              simp [hpw]
    · rcases hx with hx | hx
      · rw [hx] at HN
        have he2 : e + 1 ≤ s.size := hel
        clear hx
        go_wp2_with fail
        refine (HN.out _ hc2).mono ?_
        rintro e w3 ⟨rfl, hc3, g3⟩
        have hcc := hc3
        obtain ⟨c0, c1, f0, f1, lt3⟩ := hcc
        have hc3' := hc3.setI ((e : Int) + 1) (e + 1) (by omega)
        have gg3 := grown_set (grown_trans g2 g3) 1 (.int .i64 ((e : Int) + 1))
        have h3 := fun h => num_bad (s := s) (i := i) (e := e) (sh := 20) (e2 := e + 1) hEE hsh h
        have h6 := fun h h' => num_big (s := s) (i := i) (e := e) (sh := 20) (e2 := e + 1) hV.out hEE hsh h h'
        have h0 := fun h h' => num_ok (s := s) (i := i) (e := e) (sh := 20) (e2 := e + 1) hV.out hEE hsh h h'
        rw [hR] at h3 h6 h0
        have HN2 := Lib.hid (fun W hc => cnext_cur b s (e + 1) W hc he2 (by omega))
        have hby := nx_byte s (e + 1)
        have HLt := fun w => letter_calls (nx s (e + 1)) w hby.1 hby.2
        have HDg := fun w => digit_calls (nx s (e + 1)) w hby.1 hby.2
        clear hby hsh hEE
        generalize nx s (e + 1) = y at *
        generalize letterB y = lb at *
        generalize digitB y = db at *
        cases lb with
        | true =>
          obtain ⟨rfl, h_⟩ := Prod.mk.inj (h3 (.inl rfl))
          obtain ⟨rfl, rfl⟩ := Prod.mk.inj h_
          clear h3 h6 h0 h_
          have HLt := Lib.hid HLt
          go_wp2_with fail
          refine (HN2.out _ hc3').mono ?_
          rintro e w4 ⟨rfl, hc4, g4⟩
          go_wp2_with fail
          refine (HLt.out _).mono ?_
          rintro e w4' ⟨rfl, rfl⟩
          go_wp2_with fail
          go_ret2
          exact ⟨rfl, hc4, grown_trans gg3 g4⟩
        | false =>
          cases db with
          | true =>
            obtain ⟨rfl, h_⟩ := Prod.mk.inj (h3 (.inr rfl))
            obtain ⟨rfl, rfl⟩ := Prod.mk.inj h_
            clear h3 h6 h0 h_
            have HLt := Lib.hid HLt
            have HDg := Lib.hid HDg
            go_wp2_with fail
            refine (HN2.out _ hc3').mono ?_
            rintro e w4 ⟨rfl, hc4, g4⟩
            go_wp2_with fail
            refine (HLt.out _).mono ?_
            rintro e w4' ⟨rfl, rfl⟩
            go_wp2_with fail
            refine (HN2.out _ hc4).mono ?_
            rintro e w5 ⟨rfl, hc5, g5⟩
            go_wp2_with fail
            refine (HDg.out _).mono ?_
            rintro e w5' ⟨rfl, rfl⟩
            go_wp2_with fail
            go_ret2
            exact ⟨rfl, hc5, grown_trans gg3 (grown_trans g4 g5)⟩
          | false =>
            have h6 := h6 (by simp)
            have h0 := h0 (by simp)
            clear h3
            have HLt := Lib.hid HLt
            have HDg := Lib.hid HDg
            go_wp2_with fail
            refine (HN2.out _ hc3').mono ?_
            rintro e w4 ⟨rfl, hc4, g4⟩
            go_wp2_with fail
            refine (HLt.out _).mono ?_
            rintro e w4' ⟨rfl, rfl⟩
            go_wp2_with fail
            refine (HN2.out _ hc4).mono ?_
            rintro e w5 ⟨rfl, hc5, g5⟩
            go_wp2_with fail
            refine (HDg.out _).mono ?_
            rintro e w5' ⟨rfl, rfl⟩
            have gg5 := grown_trans gg3 (grown_trans g4 g5)
            by_cases hb : 2047 < v
            · obtain ⟨rfl, h_⟩ := Prod.mk.inj (h6 (by omega))
              obtain ⟨rfl, rfl⟩ := Prod.mk.inj h_
              clear h6 h0 h_
              have hb' : (2047 : Int) < (v : Int) := by omega
              go_wp2_with fail
              go_ret2
              exact ⟨rfl, hc5, gg5⟩
            · obtain ⟨rfl, h_⟩ := Prod.mk.inj (h0 (by omega))
              obtain ⟨rfl, rfl⟩ := Prod.mk.inj h_
              clear h6 h0 h_
              have hb' : ¬ (2047 : Int) < (v : Int) := by omega
              go_wp2_with fail
              go_ret2
              refine ⟨?_, hc5, gg5⟩
              have hpw : ((v * 2 ^ 20 : Nat) : Int) = (v : Int) * 1048576 := by omega
              simp [hpw]
      · rw [hx] at HN
        have he2 : e + 1 ≤ s.size := hel
        clear hx
        go_wp2_with fail
        refine (HN.out _ hc2).mono ?_
        rintro e w3 ⟨rfl, hc3, g3⟩
        have hcc := hc3
        obtain ⟨c0, c1, f0, f1, lt3⟩ := hcc
        have hc3' := hc3.setI ((e : Int) + 1) (e + 1) (by omega)
        have gg3 := grown_set (grown_trans g2 g3) 1 (.int .i64 ((e : Int) + 1))
        have h3 := fun h => num_bad (s := s) (i := i) (e := e) (sh := 20) (e2 := e + 1) hEE hsh h
        have h6 := fun h h' => num_big (s := s) (i := i) (e := e) (sh := 20) (e2 := e + 1) hV.out hEE hsh h h'
        have h0 := fun h h' => num_ok (s := s) (i := i) (e := e) (sh := 20) (e2 := e + 1) hV.out hEE hsh h h'
        rw [hR] at h3 h6 h0
        have HN2 := Lib.hid (fun W hc => cnext_cur b s (e + 1) W hc he2 (by omega))
        have hby := nx_byte s (e + 1)
        have HLt := fun w => letter_calls (nx s (e + 1)) w hby.1 hby.2
        have HDg := fun w => digit_calls (nx s (e + 1)) w hby.1 hby.2
        clear hby hsh hEE
        generalize nx s (e + 1) = y at *
        generalize letterB y = lb at *
        generalize digitB y = db at *
        cases lb with
        | true =>
          obtain ⟨rfl, h_⟩ := Prod.mk.inj (h3 (.inl rfl))
          obtain ⟨rfl, rfl⟩ := Prod.mk.inj h_
          clear h3 h6 h0 h_
          have HLt := Lib.hid HLt
          go_wp2_with fail
          refine (HN2.out _ hc3').mono ?_
          rintro e w4 ⟨rfl, hc4, g4⟩
          go_wp2_with fail
          refine (HLt.out _).mono ?_
          rintro e w4' ⟨rfl, rfl⟩
          go_wp2_with fail
          go_ret2
          exact ⟨rfl, hc4, grown_trans gg3 g4⟩
        | false =>
          cases db with
          | true =>
            obtain ⟨rfl, h_⟩ := Prod.mk.inj (h3 (.inr rfl))
            obtain ⟨rfl, rfl⟩ := Prod.mk.inj h_
            clear h3 h6 h0 h_
            have HLt := Lib.hid HLt
            have HDg := Lib.hid HDg
            go_wp2_with fail
            refine (HN2.out _ hc3').mono ?_
            rintro e w4 ⟨rfl, hc4, g4⟩
            go_wp2_with fail
            refine (HLt.out _).mono ?_
            rintro e w4' ⟨rfl, rfl⟩
            go_wp2_with fail
            refine (HN2.out _ hc4).mono ?_
            rintro e w5 ⟨rfl, hc5, g5⟩
            go_wp2_with fail
            refine (HDg.out _).mono ?_
            rintro e w5' ⟨rfl, rfl⟩
            go_wp2_with fail
            go_ret2
            exact ⟨rfl, hc5, grown_trans gg3 (grown_trans g4 g5)⟩
          | false =>
            have h6 := h6 (by simp)
            have h0 := h0 (by simp)
            clear h3
            have HLt := Lib.hid HLt
            have HDg := Lib.hid HDg
            go_wp2_with fail
            refine (HN2.out _ hc3').mono ?_
            rintro e w4 ⟨rfl, hc4, g4⟩
            go_wp2_with fail
            refine (HLt.out _).mono ?_
            rintro e w4' ⟨rfl, rfl⟩
            go_wp2_with fail
            refine (HN2.out _ hc4).mono ?_
            rintro e w5 ⟨rfl, hc5, g5⟩
            go_wp2_with fail
            refine (HDg.out _).mono ?_
            rintro e w5' ⟨rfl, rfl⟩
            have gg5 := grown_trans gg3 (grown_trans g4 g5)
            by_cases hb : 2047 < v
            · obtain ⟨rfl, h_⟩ := Prod.mk.inj (h6 (by omega))
              obtain ⟨rfl, rfl⟩ := Prod.mk.inj h_
              clear h6 h0 h_
              have hb' : (2047 : Int) < (v : Int) := by omega
              go_wp2_with fail
              go_ret2
              exact ⟨rfl, hc5, gg5⟩
            · obtain ⟨rfl, h_⟩ := Prod.mk.inj (h0 (by omega))
              obtain ⟨rfl, rfl⟩ := Prod.mk.inj h_
              clear h6 h0 h_
              have hb' : ¬ (2047 : Int) < (v : Int) := by omega
              go_wp2_with fail
              go_ret2
              refine ⟨?_, hc5, gg5⟩
              have hpw : ((v * 2 ^ 20 : Nat) : Int) = (v : Int) * 1048576 := by omega
              simp [hpw]
    · have q1 : (nx s e == 75) = false := by rw [beq_eq_false_iff_ne]; exact h75
      have q2 : (nx s e == 107) = false := by rw [beq_eq_false_iff_ne]; exact h107
      have q3 : (nx s e == 77) = false := by rw [beq_eq_false_iff_ne]; exact h77
      have q4 : (nx s e == 109) = false := by rw [beq_eq_false_iff_ne]; exact h109
      clear h75 h107 h77 h109
      have he2 := he0
      have HN' := HN
      generalize hxx : nx s e = xx at HN q1 q2 q3 q4
      clear hxx
      go_wp2_with fail
      refine (HN.out _ hc2).mono ?_
      rintro e w3 ⟨rfl, hc3, g3⟩
      have gg3 := grown_trans g2 g3
      have h3 := fun h => num_bad (s := s) (i := i) (e := e) (sh := 0) (e2 := e) hEE hsh h
      have h6 := fun h h' => num_big (s := s) (i := i) (e := e) (sh := 0) (e2 := e) hV.out hEE hsh h h'
      have h0 := fun h h' => num_ok (s := s) (i := i) (e := e) (sh := 0) (e2 := e) hV.out hEE hsh h h'
      rw [hR] at h3 h6 h0
      have HN2 := Lib.hid (fun W hc => cnext_cur b s (e) W hc he2 (by omega))
      have hby := nx_byte s (e)
      have HLt := fun w => letter_calls (nx s (e)) w hby.1 hby.2
      have HDg := fun w => digit_calls (nx s (e)) w hby.1 hby.2
      clear hby hsh hEE
      generalize nx s (e) = y at *
      generalize letterB y = lb at *
      generalize digitB y = db at *
      cases lb with
      | true =>
        obtain ⟨rfl, h_⟩ := Prod.mk.inj (h3 (.inl rfl))
        obtain ⟨rfl, rfl⟩ := Prod.mk.inj h_
        clear h3 h6 h0 h_
        have HLt := Lib.hid HLt
        go_wp2_with fail
        refine (HN2.out _ hc3).mono ?_
        rintro e w4 ⟨rfl, hc4, g4⟩
        go_wp2_with fail
        refine (HLt.out _).mono ?_
        rintro e w4' ⟨rfl, rfl⟩
        go_wp2_with fail
        go_ret2
        exact ⟨rfl, hc4, grown_trans gg3 g4⟩
      | false =>
        cases db with
        | true =>
          obtain ⟨rfl, h_⟩ := Prod.mk.inj (h3 (.inr rfl))
          obtain ⟨rfl, rfl⟩ := Prod.mk.inj h_
          clear h3 h6 h0 h_
          have HLt := Lib.hid HLt
          have HDg := Lib.hid HDg
          go_wp2_with fail
          refine (HN2.out _ hc3).mono ?_
          rintro e w4 ⟨rfl, hc4, g4⟩
          go_wp2_with fail
          refine (HLt.out _).mono ?_
          rintro e w4' ⟨rfl, rfl⟩
          go_wp2_with fail
          refine (HN2.out _ hc4).mono ?_
          rintro e w5 ⟨rfl, hc5, g5⟩
          go_wp2_with fail
          refine (HDg.out _).mono ?_
          rintro e w5' ⟨rfl, rfl⟩
          go_wp2_with fail
          go_ret2
          exact ⟨rfl, hc5, grown_trans gg3 (grown_trans g4 g5)⟩
        | false =>
          have h6 := h6 (by simp)
          have h0 := h0 (by simp)
          clear h3
          have HLt := Lib.hid HLt
          have HDg := Lib.hid HDg
          go_wp2_with fail
          refine (HN2.out _ hc3).mono ?_
          rintro e w4 ⟨rfl, hc4, g4⟩
          go_wp2_with fail
          refine (HLt.out _).mono ?_
          rintro e w4' ⟨rfl, rfl⟩
          go_wp2_with fail
          refine (HN2.out _ hc4).mono ?_
          rintro e w5 ⟨rfl, hc5, g5⟩
          go_wp2_with fail
          refine (HDg.out _).mono ?_
          rintro e w5' ⟨rfl, rfl⟩
          have gg5 := grown_trans gg3 (grown_trans g4 g5)
          by_cases hb : 2147483647 < v
          · obtain ⟨rfl, h_⟩ := Prod.mk.inj (h6 (by omega))
            obtain ⟨rfl, rfl⟩ := Prod.mk.inj h_
            clear h6 h0 h_
            have hb' : (2147483647 : Int) < (v : Int) := by omega
            go_wp2_with fail
            go_ret2
            exact ⟨rfl, hc5, gg5⟩
          · obtain ⟨rfl, h_⟩ := Prod.mk.inj (h0 (by omega))
            obtain ⟨rfl, rfl⟩ := Prod.mk.inj h_
            clear h6 h0 h_
            have hb' : ¬ (2147483647 : Int) < (v : Int) := by omega
            go_wp2_with fail
            go_ret2
            refine ⟨?_, hc5, gg5⟩
            have hpw : ((v * 2 ^ 0 : Nat) : Int) = (v : Int) * 1 := by omega
            simp [hpw]
  · rcases hsv with ⟨hsh, hel, hx⟩ | ⟨hsh, hel, hx⟩ | ⟨hsh, h75, h107, h77, h109⟩
    · rcases hx with hx | hx
      · rw [hx] at HN
        have he2 : e + 1 ≤ s.size := hel
        clear hx
        go_wp2_with fail
        refine (HN.out _ hc2).mono ?_
        rintro e w3 ⟨rfl, hc3, g3⟩
        have hcc := hc3
        obtain ⟨c0, c1, f0, f1, lt3⟩ := hcc
        have hc3' := hc3.setI ((e : Int) + 1) (e + 1) (by omega)
        have gg3 := grown_set (grown_trans g2 g3) 1 (.int .i64 ((e : Int) + 1))
        have h3 := fun h => num_bad (s := s) (i := i) (e := e) (sh := 10) (e2 := e + 1) hEE hsh h
        have h6 := fun h h' => num_big (s := s) (i := i) (e := e) (sh := 10) (e2 := e + 1) hV.out hEE hsh h h'
        have h0 := fun h h' => num_ok (s := s) (i := i) (e := e) (sh := 10) (e2 := e + 1) hV.out hEE hsh h h'
        rw [hR] at h3 h6 h0
        have HN2 := Lib.hid (fun W hc => cnext_cur b s (e + 1) W hc he2 (by omega))
        have hby := nx_byte s (e + 1)
        have HLt := fun w => letter_calls (nx s (e + 1)) w hby.1 hby.2
        have HDg := fun w => digit_calls (nx s (e + 1)) w hby.1 hby.2
        clear hby hsh hEE
        generalize nx s (e + 1) = y at *
        generalize letterB y = lb at *
        generalize digitB y = db at *
        cases lb with
        | true =>
          obtain ⟨rfl, h_⟩ := Prod.mk.inj (h3 (.inl rfl))
          obtain ⟨rfl, rfl⟩ := Prod.mk.inj h_
          clear h3 h6 h0 h_
          have HLt := Lib.hid HLt
          go_wp2_with fail
          refine (HN2.out _ hc3').mono ?_
          rintro e w4 ⟨rfl, hc4, g4⟩
          go_wp2_with fail
          refine (HLt.out _).mono ?_
          rintro e w4' ⟨rfl, rfl⟩
          go_wp2_with fail
          go_ret2
          exact ⟨rfl, hc4, grown_trans gg3 g4⟩
        | false =>
          cases db with
          | true =>
            obtain ⟨rfl, h_⟩ := Prod.mk.inj (h3 (.inr rfl))
            obtain ⟨rfl, rfl⟩ := Prod.mk.inj h_
            clear h3 h6 h0 h_
            have HLt := Lib.hid HLt
            have HDg := Lib.hid HDg
            go_wp2_with fail
            refine (HN2.out _ hc3').mono ?_
            rintro e w4 ⟨rfl, hc4, g4⟩
            go_wp2_with fail
            refine (HLt.out _).mono ?_
            rintro e w4' ⟨rfl, rfl⟩
            go_wp2_with fail
            refine (HN2.out _ hc4).mono ?_
            rintro e w5 ⟨rfl, hc5, g5⟩
            go_wp2_with fail
            refine (HDg.out _).mono ?_
            rintro e w5' ⟨rfl, rfl⟩
            go_wp2_with fail
            go_ret2
            exact ⟨rfl, hc5, grown_trans gg3 (grown_trans g4 g5)⟩
          | false =>
            have h6 := h6 (by simp)
            have h0 := h0 (by simp)
            clear h3
            have HLt := Lib.hid HLt
            have HDg := Lib.hid HDg
            go_wp2_with fail
            refine (HN2.out _ hc3').mono ?_
            rintro e w4 ⟨rfl, hc4, g4⟩
            go_wp2_with fail
            refine (HLt.out _).mono ?_
            rintro e w4' ⟨rfl, rfl⟩
            go_wp2_with fail
            refine (HN2.out _ hc4).mono ?_
            rintro e w5 ⟨rfl, hc5, g5⟩
            go_wp2_with fail
            refine (HDg.out _).mono ?_
            rintro e w5' ⟨rfl, rfl⟩
            have gg5 := grown_trans gg3 (grown_trans g4 g5)
            obtain ⟨rfl, h_⟩ := Prod.mk.inj (h6 (by omega))
            obtain ⟨rfl, rfl⟩ := Prod.mk.inj h_
            clear h6 h0 h_
            go_wp2_with fail
            go_ret2
            exact ⟨rfl, hc5, gg5⟩
      · rw [hx] at HN
        have he2 : e + 1 ≤ s.size := hel
        clear hx
        go_wp2_with fail
        refine (HN.out _ hc2).mono ?_
        rintro e w3 ⟨rfl, hc3, g3⟩
        have hcc := hc3
        obtain ⟨c0, c1, f0, f1, lt3⟩ := hcc
        have hc3' := hc3.setI ((e : Int) + 1) (e + 1) (by omega)
        have gg3 := grown_set (grown_trans g2 g3) 1 (.int .i64 ((e : Int) + 1))
        have h3 := fun h => num_bad (s := s) (i := i) (e := e) (sh := 10) (e2 := e + 1) hEE hsh h
        have h6 := fun h h' => num_big (s := s) (i := i) (e := e) (sh := 10) (e2 := e + 1) hV.out hEE hsh h h'
        have h0 := fun h h' => num_ok (s := s) (i := i) (e := e) (sh := 10) (e2 := e + 1) hV.out hEE hsh h h'
        rw [hR] at h3 h6 h0
        have HN2 := Lib.hid (fun W hc => cnext_cur b s (e + 1) W hc he2 (by omega))
        have hby := nx_byte s (e + 1)
        have HLt := fun w => letter_calls (nx s (e + 1)) w hby.1 hby.2
        have HDg := fun w => digit_calls (nx s (e + 1)) w hby.1 hby.2
        clear hby hsh hEE
        generalize nx s (e + 1) = y at *
        generalize letterB y = lb at *
        generalize digitB y = db at *
        cases lb with
        | true =>
          obtain ⟨rfl, h_⟩ := Prod.mk.inj (h3 (.inl rfl))
          obtain ⟨rfl, rfl⟩ := Prod.mk.inj h_
          clear h3 h6 h0 h_
          have HLt := Lib.hid HLt
          go_wp2_with fail
          refine (HN2.out _ hc3').mono ?_
          rintro e w4 ⟨rfl, hc4, g4⟩
          go_wp2_with fail
          refine (HLt.out _).mono ?_
          rintro e w4' ⟨rfl, rfl⟩
          go_wp2_with fail
          go_ret2
          exact ⟨rfl, hc4, grown_trans gg3 g4⟩
        | false =>
          cases db with
          | true =>
            obtain ⟨rfl, h_⟩ := Prod.mk.inj (h3 (.inr rfl))
            obtain ⟨rfl, rfl⟩ := Prod.mk.inj h_
            clear h3 h6 h0 h_
            have HLt := Lib.hid HLt
            have HDg := Lib.hid HDg
            go_wp2_with fail
            refine (HN2.out _ hc3').mono ?_
            rintro e w4 ⟨rfl, hc4, g4⟩
            go_wp2_with fail
            refine (HLt.out _).mono ?_
            rintro e w4' ⟨rfl, rfl⟩
            go_wp2_with fail
            refine (HN2.out _ hc4).mono ?_
            rintro e w5 ⟨rfl, hc5, g5⟩
            go_wp2_with fail
            refine (HDg.out _).mono ?_
            rintro e w5' ⟨rfl, rfl⟩
            go_wp2_with fail
            go_ret2
            exact ⟨rfl, hc5, grown_trans gg3 (grown_trans g4 g5)⟩
          | false =>
            have h6 := h6 (by simp)
            have h0 := h0 (by simp)
            clear h3
            have HLt := Lib.hid HLt
            have HDg := Lib.hid HDg
            go_wp2_with fail
            refine (HN2.out _ hc3').mono ?_
            rintro e w4 ⟨rfl, hc4, g4⟩
            go_wp2_with fail
            refine (HLt.out _).mono ?_
            rintro e w4' ⟨rfl, rfl⟩
            go_wp2_with fail
            refine (HN2.out _ hc4).mono ?_
            rintro e w5 ⟨rfl, hc5, g5⟩
            go_wp2_with fail
            refine (HDg.out _).mono ?_
            rintro e w5' ⟨rfl, rfl⟩
            have gg5 := grown_trans gg3 (grown_trans g4 g5)
            obtain ⟨rfl, h_⟩ := Prod.mk.inj (h6 (by omega))
            obtain ⟨rfl, rfl⟩ := Prod.mk.inj h_
            clear h6 h0 h_
            go_wp2_with fail
            go_ret2
            exact ⟨rfl, hc5, gg5⟩
    · rcases hx with hx | hx
      · rw [hx] at HN
        have he2 : e + 1 ≤ s.size := hel
        clear hx
        go_wp2_with fail
        refine (HN.out _ hc2).mono ?_
        rintro e w3 ⟨rfl, hc3, g3⟩
        have hcc := hc3
        obtain ⟨c0, c1, f0, f1, lt3⟩ := hcc
        have hc3' := hc3.setI ((e : Int) + 1) (e + 1) (by omega)
        have gg3 := grown_set (grown_trans g2 g3) 1 (.int .i64 ((e : Int) + 1))
        have h3 := fun h => num_bad (s := s) (i := i) (e := e) (sh := 20) (e2 := e + 1) hEE hsh h
        have h6 := fun h h' => num_big (s := s) (i := i) (e := e) (sh := 20) (e2 := e + 1) hV.out hEE hsh h h'
        have h0 := fun h h' => num_ok (s := s) (i := i) (e := e) (sh := 20) (e2 := e + 1) hV.out hEE hsh h h'
        rw [hR] at h3 h6 h0
        have HN2 := Lib.hid (fun W hc => cnext_cur b s (e + 1) W hc he2 (by omega))
        have hby := nx_byte s (e + 1)
        have HLt := fun w => letter_calls (nx s (e + 1)) w hby.1 hby.2
        have HDg := fun w => digit_calls (nx s (e + 1)) w hby.1 hby.2
        clear hby hsh hEE
        generalize nx s (e + 1) = y at *
        generalize letterB y = lb at *
        generalize digitB y = db at *
        cases lb with
        | true =>
          obtain ⟨rfl, h_⟩ := Prod.mk.inj (h3 (.inl rfl))
          obtain ⟨rfl, rfl⟩ := Prod.mk.inj h_
          clear h3 h6 h0 h_
          have HLt := Lib.hid HLt
          go_wp2_with fail
          refine (HN2.out _ hc3').mono ?_
          rintro e w4 ⟨rfl, hc4, g4⟩
          go_wp2_with fail
          refine (HLt.out _).mono ?_
          rintro e w4' ⟨rfl, rfl⟩
          go_wp2_with fail
          go_ret2
          exact ⟨rfl, hc4, grown_trans gg3 g4⟩
        | false =>
          cases db with
          | true =>
            obtain ⟨rfl, h_⟩ := Prod.mk.inj (h3 (.inr rfl))
            obtain ⟨rfl, rfl⟩ := Prod.mk.inj h_
            clear h3 h6 h0 h_
            have HLt := Lib.hid HLt
            have HDg := Lib.hid HDg
            go_wp2_with fail
            refine (HN2.out _ hc3').mono ?_
            rintro e w4 ⟨rfl, hc4, g4⟩
            go_wp2_with fail
            refine (HLt.out _).mono ?_
            rintro e w4' ⟨rfl, rfl⟩
            go_wp2_with fail
            refine (HN2.out _ hc4).mono ?_
            rintro e w5 ⟨rfl, hc5, g5⟩
            go_wp2_with fail
            refine (HDg.out _).mono ?_
            rintro e w5' ⟨rfl, rfl⟩
            go_wp2_with fail
            go_ret2
            exact ⟨rfl, hc5, grown_trans gg3 (grown_trans g4 g5)⟩
          | false =>
            have h6 := h6 (by simp)
            have h0 := h0 (by simp)
            clear h3
            have HLt := Lib.hid HLt
            have HDg := Lib.hid HDg
            go_wp2_with fail
            refine (HN2.out _ hc3').mono ?_
            rintro e w4 ⟨rfl, hc4, g4⟩
            go_wp2_with fail
            refine (HLt.out _).mono ?_
            rintro e w4' ⟨rfl, rfl⟩
            go_wp2_with fail
            refine (HN2.out _ hc4).mono ?_
            rintro e w5 ⟨rfl, hc5, g5⟩
            go_wp2_with fail
            refine (HDg.out _).mono ?_
            rintro e w5' ⟨rfl, rfl⟩
            have gg5 := grown_trans gg3 (grown_trans g4 g5)
            obtain ⟨rfl, h_⟩ := Prod.mk.inj (h6 (by omega))
            obtain ⟨rfl, rfl⟩ := Prod.mk.inj h_
            clear h6 h0 h_
            go_wp2_with fail
            go_ret2
            exact ⟨rfl, hc5, gg5⟩
      · rw [hx] at HN
        have he2 : e + 1 ≤ s.size := hel
        clear hx
        go_wp2_with fail
        refine (HN.out _ hc2).mono ?_
        rintro e w3 ⟨rfl, hc3, g3⟩
        have hcc := hc3
        obtain ⟨c0, c1, f0, f1, lt3⟩ := hcc
        have hc3' := hc3.setI ((e : Int) + 1) (e + 1) (by omega)
        have gg3 := grown_set (grown_trans g2 g3) 1 (.int .i64 ((e : Int) + 1))
        have h3 := fun h => num_bad (s := s) (i := i) (e := e) (sh := 20) (e2 := e + 1) hEE hsh h
        have h6 := fun h h' => num_big (s := s) (i := i) (e := e) (sh := 20) (e2 := e + 1) hV.out hEE hsh h h'
        have h0 := fun h h' => num_ok (s := s) (i := i) (e := e) (sh := 20) (e2 := e + 1) hV.out hEE hsh h h'
        rw [hR] at h3 h6 h0
        have HN2 := Lib.hid (fun W hc => cnext_cur b s (e + 1) W hc he2 (by omega))
        have hby := nx_byte s (e + 1)
        have HLt := fun w => letter_calls (nx s (e + 1)) w hby.1 hby.2
        have HDg := fun w => digit_calls (nx s (e + 1)) w hby.1 hby.2
        clear hby hsh hEE
        generalize nx s (e + 1) = y at *
        generalize letterB y = lb at *
        generalize digitB y = db at *
        cases lb with
        | true =>
          obtain ⟨rfl, h_⟩ := Prod.mk.inj (h3 (.inl rfl))
          obtain ⟨rfl, rfl⟩ := Prod.mk.inj h_
          clear h3 h6 h0 h_
          have HLt := Lib.hid HLt
          go_wp2_with fail
          refine (HN2.out _ hc3').mono ?_
          rintro e w4 ⟨rfl, hc4, g4⟩
          go_wp2_with fail
          refine (HLt.out _).mono ?_
          rintro e w4' ⟨rfl, rfl⟩
          go_wp2_with fail
          go_ret2
          exact ⟨rfl, hc4, grown_trans gg3 g4⟩
        | false =>
          cases db with
          | true =>
            obtain ⟨rfl, h_⟩ := Prod.mk.inj (h3 (.inr rfl))
            obtain ⟨rfl, rfl⟩ := Prod.mk.inj h_
            clear h3 h6 h0 h_
            have HLt := Lib.hid HLt
            have HDg := Lib.hid HDg
            go_wp2_with fail
            refine (HN2.out _ hc3').mono ?_
            rintro e w4 ⟨rfl, hc4, g4⟩
            go_wp2_with fail
            refine (HLt.out _).mono ?_
            rintro e w4' ⟨rfl, rfl⟩
            go_wp2_with fail
            refine (HN2.out _ hc4).mono ?_
            rintro e w5 ⟨rfl, hc5, g5⟩
            go_wp2_with fail
            refine (HDg.out _).mono ?_
            rintro e w5' ⟨rfl, rfl⟩
            go_wp2_with fail
            go_ret2
            exact ⟨rfl, hc5, grown_trans gg3 (grown_trans g4 g5)⟩
          | false =>
            have h6 := h6 (by simp)
            have h0 := h0 (by simp)
            clear h3
            have HLt := Lib.hid HLt
            have HDg := Lib.hid HDg
            go_wp2_with fail
            refine (HN2.out _ hc3').mono ?_
            rintro e w4 ⟨rfl, hc4, g4⟩
            go_wp2_with fail
            refine (HLt.out _).mono ?_
            rintro e w4' ⟨rfl, rfl⟩
            go_wp2_with fail
            refine (HN2.out _ hc4).mono ?_
            rintro e w5 ⟨rfl, hc5, g5⟩
            go_wp2_with fail
            refine (HDg.out _).mono ?_
            rintro e w5' ⟨rfl, rfl⟩
            have gg5 := grown_trans gg3 (grown_trans g4 g5)
            obtain ⟨rfl, h_⟩ := Prod.mk.inj (h6 (by omega))
            obtain ⟨rfl, rfl⟩ := Prod.mk.inj h_
            clear h6 h0 h_
            go_wp2_with fail
            go_ret2
            exact ⟨rfl, hc5, gg5⟩
    · have q1 : (nx s e == 75) = false := by rw [beq_eq_false_iff_ne]; exact h75
      have q2 : (nx s e == 107) = false := by rw [beq_eq_false_iff_ne]; exact h107
      have q3 : (nx s e == 77) = false := by rw [beq_eq_false_iff_ne]; exact h77
      have q4 : (nx s e == 109) = false := by rw [beq_eq_false_iff_ne]; exact h109
      clear h75 h107 h77 h109
      have he2 := he0
      have HN' := HN
      generalize hxx : nx s e = xx at HN q1 q2 q3 q4
      clear hxx
      go_wp2_with fail
      refine (HN.out _ hc2).mono ?_
      rintro e w3 ⟨rfl, hc3, g3⟩
      have gg3 := grown_trans g2 g3
      have h3 := fun h => num_bad (s := s) (i := i) (e := e) (sh := 0) (e2 := e) hEE hsh h
      have h6 := fun h h' => num_big (s := s) (i := i) (e := e) (sh := 0) (e2 := e) hV.out hEE hsh h h'
      have h0 := fun h h' => num_ok (s := s) (i := i) (e := e) (sh := 0) (e2 := e) hV.out hEE hsh h h'
      rw [hR] at h3 h6 h0
      have HN2 := Lib.hid (fun W hc => cnext_cur b s (e) W hc he2 (by omega))
      have hby := nx_byte s (e)
      have HLt := fun w => letter_calls (nx s (e)) w hby.1 hby.2
      have HDg := fun w => digit_calls (nx s (e)) w hby.1 hby.2
      clear hby hsh hEE
      generalize nx s (e) = y at *
      generalize letterB y = lb at *
      generalize digitB y = db at *
      cases lb with
      | true =>
        obtain ⟨rfl, h_⟩ := Prod.mk.inj (h3 (.inl rfl))
        obtain ⟨rfl, rfl⟩ := Prod.mk.inj h_
        clear h3 h6 h0 h_
        have HLt := Lib.hid HLt
        go_wp2_with fail
        refine (HN2.out _ hc3).mono ?_
        rintro e w4 ⟨rfl, hc4, g4⟩
        go_wp2_with fail
        refine (HLt.out _).mono ?_
        rintro e w4' ⟨rfl, rfl⟩
        go_wp2_with fail
        go_ret2
        exact ⟨rfl, hc4, grown_trans gg3 g4⟩
      | false =>
        cases db with
        | true =>
          obtain ⟨rfl, h_⟩ := Prod.mk.inj (h3 (.inr rfl))
          obtain ⟨rfl, rfl⟩ := Prod.mk.inj h_
          clear h3 h6 h0 h_
          have HLt := Lib.hid HLt
          have HDg := Lib.hid HDg
          go_wp2_with fail
          refine (HN2.out _ hc3).mono ?_
          rintro e w4 ⟨rfl, hc4, g4⟩
          go_wp2_with fail
          refine (HLt.out _).mono ?_
          rintro e w4' ⟨rfl, rfl⟩
          go_wp2_with fail
          refine (HN2.out _ hc4).mono ?_
          rintro e w5 ⟨rfl, hc5, g5⟩
          go_wp2_with fail
          refine (HDg.out _).mono ?_
          rintro e w5' ⟨rfl, rfl⟩
          go_wp2_with fail
          go_ret2
          exact ⟨rfl, hc5, grown_trans gg3 (grown_trans g4 g5)⟩
        | false =>
          have h6 := h6 (by simp)
          have h0 := h0 (by simp)
          clear h3
          have HLt := Lib.hid HLt
          have HDg := Lib.hid HDg
          go_wp2_with fail
          refine (HN2.out _ hc3).mono ?_
          rintro e w4 ⟨rfl, hc4, g4⟩
          go_wp2_with fail
          refine (HLt.out _).mono ?_
          rintro e w4' ⟨rfl, rfl⟩
          go_wp2_with fail
          refine (HN2.out _ hc4).mono ?_
          rintro e w5 ⟨rfl, hc5, g5⟩
          go_wp2_with fail
          refine (HDg.out _).mono ?_
          rintro e w5' ⟨rfl, rfl⟩
          have gg5 := grown_trans gg3 (grown_trans g4 g5)
          obtain ⟨rfl, h_⟩ := Prod.mk.inj (h6 (by omega))
          obtain ⟨rfl, rfl⟩ := Prod.mk.inj h_
          clear h6 h0 h_
          go_wp2_with fail
          go_ret2
          exact ⟨rfl, hc5, gg5⟩
end Go.Proofs.YtpeenmbonhijmaaDoor.H
