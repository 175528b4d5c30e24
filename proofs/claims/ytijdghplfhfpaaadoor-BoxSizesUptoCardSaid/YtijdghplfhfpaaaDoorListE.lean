/- Lists of addresses: the reference's bits: the walk. -/
import Derived.Test.YtijdghplfhfpaaaDoorListP
import Derived.Test.YtijdghplfhfpaaaDoorWhoC
import Derived.Test.YtijdghplfhfpaaaDoorBlk
namespace Go.Proofs.YtijdghplfhfpaaaDoor.H
open Go.RowKit Go.Proofs.YtijdghplfhfpaaaDoorW.PrintWords Go.Proofs.YtijdghplfhfpaaaDoorW.PrintLast Go.Proofs.YtijdghplfhfpaaaDoorW.PrintMore Go.Proofs.YtijdghplfhfpaaaDoor.U
set_option linter.unusedVariables false
set_option linter.unusedSimpArgs false
theorem rowABit : RowT Tryd.prog kABit 203 209 24 (.agg #[.string ⟨#[]⟩, .bool false, .bool false, .bool false]) :=
  ⟨Tryd.underlying203, by kernel_rfl, rfl, by decide, by decide, flat_kd⟩
set_option maxHeartbeats 1000000 in
set_option maxRecDepth 100000 in
theorem blankL_calls (c : Int) (w : World) : Calls Tryd.prog 188 #[.int .u8 c] w fun e w' => e = .returned (.bool (blankB c)) ∧ w = w' := by
  rcases (by omega : c = 32 ∨ c = 9 ∨ (c ≠ 32 ∧ c ≠ 9)) with rfl | rfl | ⟨h1, h2⟩
  all_goals
    go_enter Tryd.func188, Tryd.ntmps188
    go_wp2
    go_ret
    exact ⟨by simp [blankB, *], rfl⟩
/-- The bits, and whether what is quoted ends. -/
def PostBits (w : World) (R : Option (List ABit)) (e : Ending) (w' : World) : Prop :=
  match R with
  | some l => ∃ v : Value, e = .returned (.tuple #[v, .bool true]) ∧ Kd.R kABit 209 w' w.heap.size (fun _ => True) v l ∧ Below w.heap.size w w'
  | none => ∃ v : Value, e = .returned (.tuple #[v, .bool false]) ∧ Below w.heap.size w w'
theorem runB_no {s : ByteArray} {i : Nat} (hlt : i < s.size) (h : spanEnd runB s i = i) : runB s[i].toNat = false := by
  cases hr : runB s[i].toNat with
  | false => rfl
  | true =>
    rw [spanEnd_yes runB hlt hr] at h
    have := span_ge runB s (i + 1) (by omega)
    omega
set_option maxHeartbeats 1000000 in
set_option maxRecDepth 100000 in
theorem bitsOf_calls (s : ByteArray) (w : World) (hs : s.size ≤ 1048576) :
    Calls Tryd.prog 150 #[.string s] w (PostBits w (bitsP s 0 false)) := by
  generalize hR : bitsP s 0 false = R
  go_enter Tryd.func150, Tryd.ntmps150
  go_wp2_with fail
  go_loopw [4, 5, 6] (fun v va vi wr => ∃ (i : Nat) (ap : Bool) (acc : List ABit), i ≤ s.size ∧ va = .bool ap ∧ vi = .int .i64 i ∧ Kd.R kABit 209 wr w.heap.size (fun _ => True) v acc ∧ (bitsP s i ap).map (acc ++ ·) = R ∧ acc.length ≤ i ∧ Below w.heap.size w wr) (fun _ _ vi _ => s.size - (intOf vi).toNat)
  case atStart => exact ⟨0, false, [], Nat.zero_le _, rfl, rfl, Kd.R_nil _ _ _ _ _, by rw [← hR]; cases bitsP s 0 false <;> rfl, Nat.le_refl _, Below.refl _ _⟩
  case round =>
    clear hR
    obtain ⟨i, ap, acc, hi, rfl, rfl, hRow, hR, hacc, hB⟩ := hrel
    obtain ⟨A0, cap0, rfl⟩ := Kd.R_slice hRow
    by_cases hlt : i < s.size
    · have b0 := s[i].toNat_lt
      have i1 : (i : Int) < (s.size : Int) := by omega
      have HBl := fun w => blankL_calls s[i].toNat w
      cases hb : blankB s[i].toNat with
      | true =>
        rw [bits_blank s i ap hlt hb] at hR
        rw [hb] at HBl
        have HBl := Lib.hid HBl
        have hR := Lib.hid hR
        clear hb
        go_wp2_with (go_at_call 188; refine (HBl.out _).mono ?_; rintro e w2 ⟨rfl, rfl⟩)
        go_roundw
        case rel => exact ⟨i + 1, true, acc, hlt, rfl, by go_num, hRow, hR.out, by omega, hB⟩
        case measure => simp [intOf]; omega
      | false =>
        rw [hb] at HBl
        have HBl := Lib.hid HBl
        have hb' := hb
        clear hb
        have hb := Lib.hid hb'
        clear hb'
        have hR' := hR
        clear hR
        have hR' := Lib.hid hR'
        go_wp2_with (go_at_call 188; refine (HBl.out _).mono ?_; rintro e w2 ⟨rfl, rfl⟩)
        obtain ⟨wo, rfl⟩ : ∃ wo : World, wo = wr := ⟨_, rfl⟩
        generalize hE : spanEnd runB s i = E
        go_loopw [7] (fun v wr => ∃ k : Nat, i ≤ k ∧ k ≤ s.size ∧ v = .int .i64 k ∧ spanEnd runB s k = E ∧ Below wo.heap.size wo wr) (fun v _ => s.size - (intOf v).toNat)
        case atStart => exact ⟨i, Nat.le_refl _, hi, rfl, hE, Below.refl _ _⟩
        case round =>
          obtain ⟨k, hik, hk, rfl, hEk, hBo⟩ := hrel
          have hR' := hR'.out
          have hBk : Below w.heap.size w wr := hB.trans (hBo.mono hB.size)
          have hz := hBo.size
          have hzB := hB.size
          by_cases hlk : k < s.size
          · have b1 := s[k].toNat_lt
            have i2 : (k : Int) < (s.size : Int) := by omega
            have HAt := fun w => atomByte_calls s[k].toNat w (by omega) (by omega)
            have hy := spanEnd_yes runB hlk
            have hn := spanEnd_no runB hlk
            unfold runB at hy hn
            generalize atomB s[k].toNat = at_ at HAt hy hn
            have HAt := Lib.hid HAt
            by_cases h1 : at_ = true ∨ s[k].toNat = 46
            · have hq := Lib.hid ((hy (by rcases h1 with h1 | h1 <;> simp [h1])).symm.trans hEk)
              clear hn hy hEk
              rcases (by cases at_ <;> simp_all : at_ = true ∨ (at_ = false ∧ s[k].toNat = 46)) with rfl | ⟨rfl, h2⟩
              · clear h1
                go_wp2_with (go_at_call 189; refine (HAt.out _).mono ?_; rintro e w2 ⟨rfl, hb2⟩)
                go_roundw
                case rel => exact ⟨k + 1, by omega, hlk, by go_num, hq.out, hBo.trans (hb2.mono hz)⟩
                case measure => simp [intOf]; omega
              · have e1 : ((s[k].toNat : Int) == 46) = true := by rw [beq_iff_eq]; omega
                clear h1 h2
                go_wp2_with (go_at_call 189; refine (HAt.out _).mono ?_; rintro e w2 ⟨rfl, hb2⟩)
                go_roundw
                case rel => exact ⟨k + 1, by omega, hlk, by go_num, hq.out, hBo.trans (hb2.mono hz)⟩
                case measure => simp [intOf]; omega
            · obtain ⟨rfl, h2⟩ : at_ = false ∧ s[k].toNat ≠ 46 := ⟨by cases at_ <;> simp_all, fun h => h1 (.inr h)⟩
              have hkE : spanEnd runB s i = k := hE.trans ((hn (by simp; omega)).symm.trans hEk).symm
              have e1 : ((s[k].toNat : Int) == 46) = false := by rw [beq_eq_false_iff_ne]; omega
              clear hn hy hEk hE h1 h2
              by_cases hki : i < k
              · rw [bits_run s i ap (by omega) (by omega), hkE] at hR'
                have i3 : (i : Int) < (k : Int) := by omega
                have hR := Lib.hid hR'
                clear hR' hkE
                have i4 : (0 : Int) ≤ (i : Int) := by omega
                have i5 : (i : Int) ≤ (k : Int) := by omega
                go_wp2_with (first | (go_at_call 189; refine (HAt.out _).mono ?_; rintro e w2 ⟨rfl, hb2⟩; have hRow2 := Kd.R_below hRow (hBo.trans (hb2.mono hz)); have hz2 := hb2.size) | (at_builtin; refine snoc_list rowABit w.heap.size rfl _ _ rfl (.slice A0 acc.length cap0) acc (⟨s.extract i k, true, false, ap⟩ : ABit) [.string (s.extract i k), .bool true, .bool false, .bool ap] rfl rfl rfl hRow2 (by omega) (by omega) ?_; intro v1 w3 hR1 hb3 hg3))
                go_roundw
                case rel => exact ⟨k, false, _, hk, rfl, rfl, hR1, by rw [← hR.out]; simp [List.append_assoc, Function.comp_def], by simp; omega, (hBk.trans (hb2.mono (by omega))).trans hb3⟩
                case measure => simp [intOf]; omega
              · obtain rfl : i = k := by omega
                have i3 : ¬ (i : Int) < (i : Int) := by omega
                have hr := runB_no hlt hkE
                by_cases h34 : s[i].toNat = 34
                · rw [bits_quoted s i ap hlt h34] at hR'
                  have e2 : ((s[i].toNat : Int) != 34) = false := by rw [bne_eq_false_iff_eq]; omega
                  clear hkE hr h34
                  go_wp2_with (go_at_call 189; refine (HAt.out _).mono ?_; rintro e w2 ⟨rfl, hb2⟩; have hRow2 := Kd.R_below hRow (hBo.trans (hb2.mono hz)); have hz2 := hb2.size)
                  have hB2 := hBk.trans (hb2.mono (by omega))
                  have hzz2 := hB2.size
                  clear HAt HBl hb hBo hBk hb2 hB
                  obtain ⟨w3, rfl⟩ : ∃ w3 : World, w3 = w2 := ⟨_, rfl⟩
                  generalize hQ : qEnd s (i + 1) = QE at *
                  go_loopw [7] (fun v wr => ∃ q : Nat, i < q ∧ v = .int .i64 q ∧ ((q ≤ s.size ∧ qEnd s q = QE) ∨ (q = s.size + 1 ∧ QE = none)) ∧ w3 = wr) (fun v _ => s.size + 1 - (intOf v).toNat)
                  case atStart => exact ⟨i + 1, by omega, by go_num, .inl ⟨hlt, hQ⟩, rfl⟩
                  case round =>
                    obtain ⟨q, hiq, rfl, hq, rfl⟩ := hrel
                    clear hQ
                    rcases hq with ⟨hqs, hQ⟩ | ⟨rfl, rfl⟩
                    · by_cases hlq : q < s.size
                      · rw [qEnd, dif_pos hlq] at hQ
                        have b2 := s[q].toNat_lt
                        have i6 : (q : Int) < (s.size : Int) := by omega
                        by_cases h1 : s[q].toNat = 34
                        · rw [if_pos h1] at hQ
                          subst hQ
                          have e3 : ((s[q].toNat : Int) != 34) = false := by rw [bne_eq_false_iff_eq]; omega
                          simp only [Option.bind_some] at hR'
                          have hR := Lib.hid hR'
                          clear hR' h1
                          go_wp2_with (at_builtin; refine snoc_list rowABit w.heap.size rfl _ _ rfl (.slice A0 acc.length cap0) acc (⟨⟨#[]⟩, false, true, ap⟩ : ABit) [.string ⟨#[]⟩, .bool false, .bool true, .bool ap] rfl rfl rfl hRow2 (by omega) (by omega) ?_; intro v1 w4 hR1 hb4 hg4)
                          go_roundw
                          case rel => exact ⟨q + 1, false, _, hlq, rfl, by go_num, hR1, by rw [← hR.out]; simp [List.append_assoc, Function.comp_def], by simp; omega, hB2.trans hb4⟩
                          case measure => simp [intOf]; omega
                        · rw [if_neg h1] at hQ
                          have e3 : ((s[q].toNat : Int) != 34) = true := by rw [bne_iff_ne]; omega
                          by_cases h2 : s[q].toNat = 92
                          · rw [if_pos h2] at hQ
                            have e4 : ((s[q].toNat : Int) == 92) = true := by rw [beq_iff_eq]; omega
                            clear h1 h2
                            have hQ2 : (q + 2 ≤ s.size ∧ qEnd s (q + 2) = QE) ∨ (q + 2 = s.size + 1 ∧ QE = none) := by
                              by_cases h3 : q + 1 < s.size
                              · rw [if_pos h3] at hQ; exact .inl ⟨by omega, hQ⟩
                              · rw [if_neg h3] at hQ; exact .inr ⟨by omega, hQ.symm⟩
                            have hQ2 := Lib.hid hQ2
                            clear hQ
                            go_wp2_with fail
                            go_roundw
                            case rel => exact ⟨q + 2, by omega, by go_num, hQ2.out, by trivial⟩
                            case measure => simp [intOf]; omega
                          · rw [if_neg h2] at hQ
                            have e4 : ((s[q].toNat : Int) == 92) = false := by rw [beq_eq_false_iff_ne]; omega
                            clear h1 h2
                            have hQ := Lib.hid hQ
                            go_wp2_with fail
                            go_roundw
                            case rel => exact ⟨q + 1, by omega, by go_num, .inl ⟨by omega, hQ.out⟩, by trivial⟩
                            case measure => simp [intOf]; omega
                      · rw [qEnd, dif_neg hlq] at hQ
                        subst hQ
                        simp only [Option.bind_none, Option.map_none] at hR'
                        subst hR'
                        obtain rfl : q = s.size := by omega
                        go_wp2_with fail
                        go_ret2
                        exact ⟨_, rfl, hB2⟩
                    · simp only [Option.bind_none, Option.map_none] at hR'
                      subst hR'
                      have i6 : ¬ ((s.size : Int) + 1 < (s.size : Int)) := by omega
                      have i7 : (s.size : Int) ≤ (s.size : Int) + 1 := by omega
                      go_wp2_with fail
                      go_ret2
                      exact ⟨_, rfl, hB2⟩
                · rw [bits_one s i ap hlt hb.out hr h34, ← ext_one hlt] at hR'
                  have e2 : ((s[i].toNat : Int) != 34) = true := by rw [bne_iff_ne]; omega
                  clear hkE hr h34
                  have hR := Lib.hid hR'
                  clear hR'
                  have i4 : (i : Int) ≤ (i : Int) + 1 := by omega
                  have i5 : (i : Int) + 1 ≤ s.size := by omega
                  go_wp2_with (first | (go_at_call 189; refine (HAt.out _).mono ?_; rintro e w2 ⟨rfl, hb2⟩; have hRow2 := Kd.R_below hRow (hBo.trans (hb2.mono hz)); have hz2 := hb2.size) | (at_builtin; refine snoc_list rowABit w.heap.size rfl _ _ rfl (.slice A0 acc.length cap0) acc (⟨s.extract i (i + 1), false, false, ap⟩ : ABit) [.string (s.extract i (i + 1)), .bool false, .bool false, .bool ap] rfl rfl rfl hRow2 (by omega) (by omega) ?_; intro v1 w3 hR1 hb3 hg3))
                  go_roundw
                  case rel => exact ⟨i + 1, false, _, hlt, rfl, by go_num, hR1, by rw [← hR.out]; simp [List.append_assoc, Function.comp_def], by simp; omega, (hBk.trans (hb2.mono (by omega))).trans hb3⟩
                  case measure => simp [intOf]; omega
          · obtain rfl : k = s.size := by omega
            have hkE : spanEnd runB s i = s.size := by rw [hE, ← hEk, spanEnd_end _ (by omega)]
            clear hEk hE
            rw [bits_run s i ap (by omega) (by omega), hkE] at hR'
            have i3 : (i : Int) < (s.size : Int) := by omega
            have hRow2 := Kd.R_below hRow hBo
            have hR := Lib.hid hR'
            clear hR' hkE
            have i4 : (0 : Int) ≤ (i : Int) := by omega
            have i5 : (i : Int) ≤ (s.size : Int) := by omega
            go_wp2_with (first | (fail) | (at_builtin; refine snoc_list rowABit w.heap.size rfl _ _ rfl (.slice A0 acc.length cap0) acc (⟨s.extract i s.size, true, false, ap⟩ : ABit) [.string (s.extract i s.size), .bool true, .bool false, .bool ap] rfl rfl rfl hRow2 (by omega) (by omega) ?_; intro v1 w3 hR1 hb3 hg3))
            go_roundw
            case rel => exact ⟨s.size, false, _, Nat.le_refl _, rfl, rfl, hR1, by rw [← hR.out]; simp [List.append_assoc, Function.comp_def], by simp; omega, (hBk).trans hb3⟩
            case measure => simp [intOf]; omega
    · obtain rfl : i = s.size := by omega
      rw [bits_end s _ ap hlt] at hR
      simp only [Option.map_some, List.append_nil] at hR
      subst hR
      go_wp2_with fail
      go_ret2
      exact ⟨_, rfl, hRow, hB⟩
end Go.Proofs.YtijdghplfhfpaaaDoor.H
