/- Scripts cut into tokens: the reference's numberAt: the walk. -/
import Derived.Test.YtpeenmbonhijmaaDoorCutR
namespace Go.Proofs.YtpeenmbonhijmaaDoor.H
open Go.RowKit Go.Proofs.YtpeenmbonhijmaaDoorW.PrintWords Go.Proofs.YtpeenmbonhijmaaDoorW.PrintLast Go.Proofs.YtpeenmbonhijmaaDoorW.PrintMore Go.Proofs.YtpeenmbonhijmaaDoor.U
set_option linter.unusedVariables false
set_option linter.unusedSimpArgs false
theorem ext_cons {s : ByteArray} {k e : Nat} (h : k < e) (he : e ≤ s.size) : (s.extract k e).data.toList = s[k] :: (s.extract (k + 1) e).data.toList := by
  have e1 : ∀ a, (s.extract a e).data.toList = (s.data.toList.take e).drop a := fun a => by
    simp [ByteArray.data_extract, Array.toList_extract, List.extract_eq_take_drop, List.drop_take]
  rw [e1, e1]
  have hl : k < (s.data.toList.take e).length := by simp; omega
  rw [List.drop_eq_getElem_cons hl]
  congr 1
  simp [ByteArray.getElem_eq_getElem_data]
theorem ext_nil (s : ByteArray) (e : Nat) : (s.extract e e).data.toList = [] := by
  have e1 : (s.extract e e).data.toList = (s.data.toList.take e).drop e := by
    simp [ByteArray.data_extract, Array.toList_extract, List.extract_eq_take_drop, List.drop_take]
  rw [e1]; simp
theorem numV_from (l : List UInt8) : numV l = numFrom 0 l := rfl
set_option maxHeartbeats 40000000 in
set_option maxRecDepth 100000 in
theorem rnumber_calls (s : ByteArray) (i : Nat) (w : World) (hi : i ≤ s.size) (hs : s.size ≤ 1048576) :
    Calls Tryd.prog 147 #[.string s, .int .i64 i] w fun e w' => e = .returned (.tuple #[.int .i64 (numAt s i).2.1, .int .i64 (numAt s i).2.2, .int .i64 (numAt s i).1]) ∧ w = w' := by
  generalize hR : numAt s i = R
  obtain ⟨r1, r2, r3⟩ := R
  have hge := span_ge digitB s i hi
  have hle := span_le digitB s i hi
  have hin := span_in digitB s _ i rfl
  generalize hE : spanEnd digitB s i = E at *
  generalize hV : numV (s.extract i E).data.toList = V
  have hR := Lib.hid hR
  have hE' := Lib.hid hE
  have hV' := Lib.hid hV
  rw [numV_from] at hV
  simp only
  go_enter Tryd.func147, Tryd.ntmps147
  go_wp2_with fail
  go_loopw [1, 7, 8] (fun v vn vo wr => ∃ (k n : Nat) (ov : Bool), i ≤ k ∧ k ≤ E ∧ v = .int .i64 k ∧ vn = .int .i64 n ∧ vo = .bool ov ∧ n ≤ 2147483647 ∧ ((ov = false ∧ numFrom n (s.extract k E).data.toList = V) ∨ (ov = true ∧ 2147483647 < V)) ∧ w = wr) (fun v _ _ _ => s.size - (intOf v).toNat)
  case atStart => exact ⟨i, 0, false, Nat.le_refl _, hge, rfl, rfl, rfl, by omega, .inl ⟨rfl, hV⟩, rfl⟩
  case round =>
    clear hE hV
    obtain ⟨k, n, ov, hik, hkE, rfl, rfl, rfl, hn, hov, rfl⟩ := hrel
    have i0 : (0 : Int) ≤ (k : Int) := by omega
    by_cases hlt : k < E
    · obtain ⟨hks, hdg⟩ := hin k hik hlt
      have i1 : (k : Int) < (s.size : Int) := by omega
      have HD := fun w => digitByte_calls s[k].toNat w (by omega) (by have := s[k].toNat_lt; omega)
      rw [hdg] at HD
      have HD := Lib.hid HD
      simp only [digitB, Bool.and_eq_true, decide_eq_true_eq] at hdg
      obtain ⟨d1, d2⟩ := hdg
      rw [ext_cons hlt hle] at hov
      have hov' : (ov = false ∧ numFrom (10 * n + (s[k].toNat - 48)) (s.extract (k + 1) E).data.toList = V) ∨ (ov = true ∧ 2147483647 < V) := hov
      clear hov hin
      have k1 : IntKind.u8.wrap ((s[k].toNat : Int) - 48) = (s[k].toNat : Int) - 48 := by rw [IntKind.wrap_u8]; omega
      have k2 : IntKind.i64.wrap (10 * (n : Int)) = 10 * (n : Int) := by rw [IntKind.wrap_i64]; omega
      have k3 : IntKind.i64.wrap (10 * (n : Int) + ((s[k].toNat : Int) - 48)) = 10 * (n : Int) + ((s[k].toNat : Int) - 48) := by rw [IntKind.wrap_i64]; omega
      have k4 : IntKind.i64.wrap ((s[k].toNat : Int) - 48) = (s[k].toNat : Int) - 48 := by rw [IntKind.wrap_i64]; omega
      by_cases hbig : 2147483647 < 10 * n + (s[k].toNat - 48)
      · have hov2 : 2147483647 < V := by
          rcases hov' with ⟨_, h⟩ | ⟨_, h⟩
          · have := numFrom_ge (s.extract (k + 1) E).data.toList (10 * n + (s[k].toNat - 48)); omega
          · exact h
        have k5 : (2147483647 : Int) < 10 * (n : Int) + ((s[k].toNat : Int) - 48) := by omega
        clear hov'
        go_wp2_with (go_at_call 146; refine (HD.out _).mono ?_; rintro e w1 ⟨rfl, rfl⟩)
        go_roundw
        case rel => exact ⟨k + 1, 0, true, by omega, hlt, by go_num, rfl, rfl, by omega, .inr ⟨rfl, hov2⟩, by trivial⟩
        case measure => simp [intOf]; omega
      · have k5 : ¬ (2147483647 : Int) < 10 * (n : Int) + ((s[k].toNat : Int) - 48) := by omega
        have hov' := Lib.hid hov'
        go_wp2_with (go_at_call 146; refine (HD.out _).mono ?_; rintro e w1 ⟨rfl, rfl⟩)
        go_roundw
        case rel => exact ⟨k + 1, 10 * n + (s[k].toNat - 48), ov, by omega, hlt, by go_num, (by rw [show ((10 * n + (s[k].toNat - 48) : Nat) : Int) = 10 * (n : Int) + ((s[k].toNat : Int) - 48) by omega]), rfl, by omega, hov'.out, by trivial⟩
        case measure => simp [intOf]; omega
    · obtain rfl : k = E := by omega
      rw [ext_nil] at hov
      replace hov : (ov = false ∧ n = V) ∨ (ov = true ∧ 2147483647 < V) := hov
      have hE := hE'.out
      have hV := hV'.out
      replace hR := hR.out
      clear hE' hV' hin hge hik hkE hlt
      have HA := fun w => at_calls s k w (by omega) (by omega)
      by_cases hks : k < s.size
      · have i1 : (k : Int) < (s.size : Int) := by omega
        have HDk := fun w => digitByte_calls s[k].toNat w (by omega) (by have := s[k].toNat_lt; omega)
        have hst := span_stop digitB s _ i rfl (by rw [hE]; exact hks)
        simp only [hE] at hst
        rw [hst] at HDk
        have HDk := Lib.hid HDk
        clear hst
        by_cases hK : nx s k = 75 ∨ nx s k = 107
        · have hS : shiftAt s k = (10, k + 1) := by unfold shiftAt; rw [if_pos hK]
          rcases hK with h | h
          · rw [h] at HA
            have HA := Lib.hid HA
            clear h
            have hb2 := nx_byte s (k + 1)
            have HA2 : ∀ w, Calls Tryd.prog 145 #[.string s, .int .i64 ((k : Int) + 1)] w fun e w' => e = .returned (.int .u8 (nx s (k + 1))) ∧ w = w' := fun w => at_calls s (k + 1) w (by omega) (by omega)
            have HA2 := Lib.hid HA2
            have HL := fun w => letterByte_calls (nx s (k + 1)) w hb2.1 hb2.2
            have HD := fun w => digitByte_calls (nx s (k + 1)) w hb2.1 hb2.2
            have hbad := fun h => num_bad (e2 := k + 1) hE hS h
            have hbig := fun h h2 => num_big (e2 := k + 1) hV hE hS h h2
            have hok := fun h h2 => num_ok (e2 := k + 1) hV hE hS h h2
            rw [hR] at hbad hbig hok
            cases hL : letterB (nx s (k + 1)) with
            | true =>
              obtain ⟨rfl, h2⟩ := Prod.mk.inj (hbad (.inl hL))
              obtain ⟨rfl, rfl⟩ := Prod.mk.inj h2
              rw [hL] at HL
              have HL := Lib.hid HL
              clear hbad hbig hok hR hV hE hS hL hov HD h2
              go_wp2_with (first | (go_at_call 146; with_reducible refine (HDk.out _).mono ?_; rintro e w1 ⟨rfl, rfl⟩) | (go_at_call 145; with_reducible refine (HA.out _).mono ?_; rintro e w1 ⟨rfl, rfl⟩) | (go_at_call 145; with_reducible refine (HA2.out _).mono ?_; rintro e w1 ⟨rfl, rfl⟩) | (go_at_call 134; refine (HL.out _).mono ?_; rintro e w1 ⟨rfl, rfl⟩) | (go_at_call 146; refine (HD.out _).mono ?_; rintro e w1 ⟨rfl, rfl⟩))
              all_goals (go_ret3; first | exact ⟨rfl, rfl⟩ | exact ⟨by simp, rfl⟩)
            | false =>
              rw [hL] at HL
              have HL := Lib.hid HL
              cases hD : digitB (nx s (k + 1)) with
              | true =>
                obtain ⟨rfl, h2⟩ := Prod.mk.inj (hbad (.inr hD))
                obtain ⟨rfl, rfl⟩ := Prod.mk.inj h2
                rw [hD] at HD
                have HD := Lib.hid HD
                clear hbad hbig hok hR hV hE hS hL hov hD h2
                go_wp2_with (first | (go_at_call 146; with_reducible refine (HDk.out _).mono ?_; rintro e w1 ⟨rfl, rfl⟩) | (go_at_call 145; with_reducible refine (HA.out _).mono ?_; rintro e w1 ⟨rfl, rfl⟩) | (go_at_call 145; with_reducible refine (HA2.out _).mono ?_; rintro e w1 ⟨rfl, rfl⟩) | (go_at_call 134; refine (HL.out _).mono ?_; rintro e w1 ⟨rfl, rfl⟩) | (go_at_call 146; refine (HD.out _).mono ?_; rintro e w1 ⟨rfl, rfl⟩))
                all_goals (go_ret3; first | exact ⟨rfl, rfl⟩ | exact ⟨by simp, rfl⟩)
              | false =>
                have hno : ¬ (letterB (nx s (k + 1)) = true ∨ digitB (nx s (k + 1)) = true) := by rw [hL, hD]; decide
                rw [hD] at HD
                have HD := Lib.hid HD
                rcases hov with ⟨rfl, rfl⟩ | ⟨rfl, hv⟩
                · have k1 : IntKind.i64.wrap ((n : Int) * 1024) = (n : Int) * 1024 := by first | (simp; done) | (rw [IntKind.wrap_i64]; omega)
                  by_cases hlim : 2147483647 < n * 2 ^ 10
                  · obtain ⟨rfl, h2⟩ := Prod.mk.inj (hbig hno hlim)
                    obtain ⟨rfl, rfl⟩ := Prod.mk.inj h2
                    have k2 : (2147483647 : Int) < (n : Int) * 1024 := by omega
                    clear hbad hbig hok hR hV hE hS hL hD h2 hno hlim
                    go_wp2_with (first | (go_at_call 146; with_reducible refine (HDk.out _).mono ?_; rintro e w1 ⟨rfl, rfl⟩) | (go_at_call 145; with_reducible refine (HA.out _).mono ?_; rintro e w1 ⟨rfl, rfl⟩) | (go_at_call 145; with_reducible refine (HA2.out _).mono ?_; rintro e w1 ⟨rfl, rfl⟩) | (go_at_call 134; refine (HL.out _).mono ?_; rintro e w1 ⟨rfl, rfl⟩) | (go_at_call 146; refine (HD.out _).mono ?_; rintro e w1 ⟨rfl, rfl⟩))
                    all_goals (go_ret3; first | exact ⟨rfl, rfl⟩ | exact ⟨by simp, rfl⟩)
                  · have k3 : ((n * 2 ^ 10 : Nat) : Int) = (n : Int) * 1024 := by omega
                    have hk : (r1, r2, r3) = ((0 : Int), (n : Int) * 1024, k + 1) := (hok hno hlim).trans (by rw [← k3])
                    obtain ⟨rfl, h2⟩ := Prod.mk.inj hk
                    obtain ⟨rfl, rfl⟩ := Prod.mk.inj h2
                    have k2 : ¬ (2147483647 : Int) < (n : Int) * 1024 := by omega
                    clear hk hbad hbig hok hR hV hE hS hL hD h2 hno hlim k3
                    go_wp2_with (first | (go_at_call 146; with_reducible refine (HDk.out _).mono ?_; rintro e w1 ⟨rfl, rfl⟩) | (go_at_call 145; with_reducible refine (HA.out _).mono ?_; rintro e w1 ⟨rfl, rfl⟩) | (go_at_call 145; with_reducible refine (HA2.out _).mono ?_; rintro e w1 ⟨rfl, rfl⟩) | (go_at_call 134; refine (HL.out _).mono ?_; rintro e w1 ⟨rfl, rfl⟩) | (go_at_call 146; refine (HD.out _).mono ?_; rintro e w1 ⟨rfl, rfl⟩))
                    all_goals (go_ret3; first | exact ⟨rfl, rfl⟩ | exact ⟨by simp, rfl⟩)
                · obtain ⟨rfl, h2⟩ := Prod.mk.inj (hbig hno (by omega))
                  obtain ⟨rfl, rfl⟩ := Prod.mk.inj h2
                  clear hbad hbig hok hR hV hE hS hL hD h2 hno hv
                  go_wp2_with (first | (go_at_call 146; with_reducible refine (HDk.out _).mono ?_; rintro e w1 ⟨rfl, rfl⟩) | (go_at_call 145; with_reducible refine (HA.out _).mono ?_; rintro e w1 ⟨rfl, rfl⟩) | (go_at_call 145; with_reducible refine (HA2.out _).mono ?_; rintro e w1 ⟨rfl, rfl⟩) | (go_at_call 134; refine (HL.out _).mono ?_; rintro e w1 ⟨rfl, rfl⟩) | (go_at_call 146; refine (HD.out _).mono ?_; rintro e w1 ⟨rfl, rfl⟩))
                  all_goals (go_ret3; first | exact ⟨rfl, rfl⟩ | exact ⟨by simp, rfl⟩)
          · rw [h] at HA
            have HA := Lib.hid HA
            clear h
            have hb2 := nx_byte s (k + 1)
            have HA2 : ∀ w, Calls Tryd.prog 145 #[.string s, .int .i64 ((k : Int) + 1)] w fun e w' => e = .returned (.int .u8 (nx s (k + 1))) ∧ w = w' := fun w => at_calls s (k + 1) w (by omega) (by omega)
            have HA2 := Lib.hid HA2
            have HL := fun w => letterByte_calls (nx s (k + 1)) w hb2.1 hb2.2
            have HD := fun w => digitByte_calls (nx s (k + 1)) w hb2.1 hb2.2
            have hbad := fun h => num_bad (e2 := k + 1) hE hS h
            have hbig := fun h h2 => num_big (e2 := k + 1) hV hE hS h h2
            have hok := fun h h2 => num_ok (e2 := k + 1) hV hE hS h h2
            rw [hR] at hbad hbig hok
            cases hL : letterB (nx s (k + 1)) with
            | true =>
              obtain ⟨rfl, h2⟩ := Prod.mk.inj (hbad (.inl hL))
              obtain ⟨rfl, rfl⟩ := Prod.mk.inj h2
              rw [hL] at HL
              have HL := Lib.hid HL
              clear hbad hbig hok hR hV hE hS hL hov HD h2
              go_wp2_with (first | (go_at_call 146; with_reducible refine (HDk.out _).mono ?_; rintro e w1 ⟨rfl, rfl⟩) | (go_at_call 145; with_reducible refine (HA.out _).mono ?_; rintro e w1 ⟨rfl, rfl⟩) | (go_at_call 145; with_reducible refine (HA2.out _).mono ?_; rintro e w1 ⟨rfl, rfl⟩) | (go_at_call 134; refine (HL.out _).mono ?_; rintro e w1 ⟨rfl, rfl⟩) | (go_at_call 146; refine (HD.out _).mono ?_; rintro e w1 ⟨rfl, rfl⟩))
              all_goals (go_ret3; first | exact ⟨rfl, rfl⟩ | exact ⟨by simp, rfl⟩)
            | false =>
              rw [hL] at HL
              have HL := Lib.hid HL
              cases hD : digitB (nx s (k + 1)) with
              | true =>
                obtain ⟨rfl, h2⟩ := Prod.mk.inj (hbad (.inr hD))
                obtain ⟨rfl, rfl⟩ := Prod.mk.inj h2
                rw [hD] at HD
                have HD := Lib.hid HD
                clear hbad hbig hok hR hV hE hS hL hov hD h2
                go_wp2_with (first | (go_at_call 146; with_reducible refine (HDk.out _).mono ?_; rintro e w1 ⟨rfl, rfl⟩) | (go_at_call 145; with_reducible refine (HA.out _).mono ?_; rintro e w1 ⟨rfl, rfl⟩) | (go_at_call 145; with_reducible refine (HA2.out _).mono ?_; rintro e w1 ⟨rfl, rfl⟩) | (go_at_call 134; refine (HL.out _).mono ?_; rintro e w1 ⟨rfl, rfl⟩) | (go_at_call 146; refine (HD.out _).mono ?_; rintro e w1 ⟨rfl, rfl⟩))
                all_goals (go_ret3; first | exact ⟨rfl, rfl⟩ | exact ⟨by simp, rfl⟩)
              | false =>
                have hno : ¬ (letterB (nx s (k + 1)) = true ∨ digitB (nx s (k + 1)) = true) := by rw [hL, hD]; decide
                rw [hD] at HD
                have HD := Lib.hid HD
                rcases hov with ⟨rfl, rfl⟩ | ⟨rfl, hv⟩
                · have k1 : IntKind.i64.wrap ((n : Int) * 1024) = (n : Int) * 1024 := by first | (simp; done) | (rw [IntKind.wrap_i64]; omega)
                  by_cases hlim : 2147483647 < n * 2 ^ 10
                  · obtain ⟨rfl, h2⟩ := Prod.mk.inj (hbig hno hlim)
                    obtain ⟨rfl, rfl⟩ := Prod.mk.inj h2
                    have k2 : (2147483647 : Int) < (n : Int) * 1024 := by omega
                    clear hbad hbig hok hR hV hE hS hL hD h2 hno hlim
                    go_wp2_with (first | (go_at_call 146; with_reducible refine (HDk.out _).mono ?_; rintro e w1 ⟨rfl, rfl⟩) | (go_at_call 145; with_reducible refine (HA.out _).mono ?_; rintro e w1 ⟨rfl, rfl⟩) | (go_at_call 145; with_reducible refine (HA2.out _).mono ?_; rintro e w1 ⟨rfl, rfl⟩) | (go_at_call 134; refine (HL.out _).mono ?_; rintro e w1 ⟨rfl, rfl⟩) | (go_at_call 146; refine (HD.out _).mono ?_; rintro e w1 ⟨rfl, rfl⟩))
                    all_goals (go_ret3; first | exact ⟨rfl, rfl⟩ | exact ⟨by simp, rfl⟩)
                  · have k3 : ((n * 2 ^ 10 : Nat) : Int) = (n : Int) * 1024 := by omega
                    have hk : (r1, r2, r3) = ((0 : Int), (n : Int) * 1024, k + 1) := (hok hno hlim).trans (by rw [← k3])
                    obtain ⟨rfl, h2⟩ := Prod.mk.inj hk
                    obtain ⟨rfl, rfl⟩ := Prod.mk.inj h2
                    have k2 : ¬ (2147483647 : Int) < (n : Int) * 1024 := by omega
                    clear hk hbad hbig hok hR hV hE hS hL hD h2 hno hlim k3
                    go_wp2_with (first | (go_at_call 146; with_reducible refine (HDk.out _).mono ?_; rintro e w1 ⟨rfl, rfl⟩) | (go_at_call 145; with_reducible refine (HA.out _).mono ?_; rintro e w1 ⟨rfl, rfl⟩) | (go_at_call 145; with_reducible refine (HA2.out _).mono ?_; rintro e w1 ⟨rfl, rfl⟩) | (go_at_call 134; refine (HL.out _).mono ?_; rintro e w1 ⟨rfl, rfl⟩) | (go_at_call 146; refine (HD.out _).mono ?_; rintro e w1 ⟨rfl, rfl⟩))
                    all_goals (go_ret3; first | exact ⟨rfl, rfl⟩ | exact ⟨by simp, rfl⟩)
                · obtain ⟨rfl, h2⟩ := Prod.mk.inj (hbig hno (by omega))
                  obtain ⟨rfl, rfl⟩ := Prod.mk.inj h2
                  clear hbad hbig hok hR hV hE hS hL hD h2 hno hv
                  go_wp2_with (first | (go_at_call 146; with_reducible refine (HDk.out _).mono ?_; rintro e w1 ⟨rfl, rfl⟩) | (go_at_call 145; with_reducible refine (HA.out _).mono ?_; rintro e w1 ⟨rfl, rfl⟩) | (go_at_call 145; with_reducible refine (HA2.out _).mono ?_; rintro e w1 ⟨rfl, rfl⟩) | (go_at_call 134; refine (HL.out _).mono ?_; rintro e w1 ⟨rfl, rfl⟩) | (go_at_call 146; refine (HD.out _).mono ?_; rintro e w1 ⟨rfl, rfl⟩))
                  all_goals (go_ret3; first | exact ⟨rfl, rfl⟩ | exact ⟨by simp, rfl⟩)
        · by_cases hM : nx s k = 77 ∨ nx s k = 109
          · have hS : shiftAt s k = (20, k + 1) := by unfold shiftAt; rw [if_neg hK, if_pos hM]
            clear hK
            rcases hM with h | h
            · rw [h] at HA
              have HA := Lib.hid HA
              clear h
              have hb2 := nx_byte s (k + 1)
              have HA2 : ∀ w, Calls Tryd.prog 145 #[.string s, .int .i64 ((k : Int) + 1)] w fun e w' => e = .returned (.int .u8 (nx s (k + 1))) ∧ w = w' := fun w => at_calls s (k + 1) w (by omega) (by omega)
              have HA2 := Lib.hid HA2
              have HL := fun w => letterByte_calls (nx s (k + 1)) w hb2.1 hb2.2
              have HD := fun w => digitByte_calls (nx s (k + 1)) w hb2.1 hb2.2
              have hbad := fun h => num_bad (e2 := k + 1) hE hS h
              have hbig := fun h h2 => num_big (e2 := k + 1) hV hE hS h h2
              have hok := fun h h2 => num_ok (e2 := k + 1) hV hE hS h h2
              rw [hR] at hbad hbig hok
              cases hL : letterB (nx s (k + 1)) with
              | true =>
                obtain ⟨rfl, h2⟩ := Prod.mk.inj (hbad (.inl hL))
                obtain ⟨rfl, rfl⟩ := Prod.mk.inj h2
                rw [hL] at HL
                have HL := Lib.hid HL
                clear hbad hbig hok hR hV hE hS hL hov HD h2
                go_wp2_with (first | (go_at_call 146; with_reducible refine (HDk.out _).mono ?_; rintro e w1 ⟨rfl, rfl⟩) | (go_at_call 145; with_reducible refine (HA.out _).mono ?_; rintro e w1 ⟨rfl, rfl⟩) | (go_at_call 145; with_reducible refine (HA2.out _).mono ?_; rintro e w1 ⟨rfl, rfl⟩) | (go_at_call 134; refine (HL.out _).mono ?_; rintro e w1 ⟨rfl, rfl⟩) | (go_at_call 146; refine (HD.out _).mono ?_; rintro e w1 ⟨rfl, rfl⟩))
                all_goals (go_ret3; first | exact ⟨rfl, rfl⟩ | exact ⟨by simp, rfl⟩)
              | false =>
                rw [hL] at HL
                have HL := Lib.hid HL
                cases hD : digitB (nx s (k + 1)) with
                | true =>
                  obtain ⟨rfl, h2⟩ := Prod.mk.inj (hbad (.inr hD))
                  obtain ⟨rfl, rfl⟩ := Prod.mk.inj h2
                  rw [hD] at HD
                  have HD := Lib.hid HD
                  clear hbad hbig hok hR hV hE hS hL hov hD h2
                  go_wp2_with (first | (go_at_call 146; with_reducible refine (HDk.out _).mono ?_; rintro e w1 ⟨rfl, rfl⟩) | (go_at_call 145; with_reducible refine (HA.out _).mono ?_; rintro e w1 ⟨rfl, rfl⟩) | (go_at_call 145; with_reducible refine (HA2.out _).mono ?_; rintro e w1 ⟨rfl, rfl⟩) | (go_at_call 134; refine (HL.out _).mono ?_; rintro e w1 ⟨rfl, rfl⟩) | (go_at_call 146; refine (HD.out _).mono ?_; rintro e w1 ⟨rfl, rfl⟩))
                  all_goals (go_ret3; first | exact ⟨rfl, rfl⟩ | exact ⟨by simp, rfl⟩)
                | false =>
                  have hno : ¬ (letterB (nx s (k + 1)) = true ∨ digitB (nx s (k + 1)) = true) := by rw [hL, hD]; decide
                  rw [hD] at HD
                  have HD := Lib.hid HD
                  rcases hov with ⟨rfl, rfl⟩ | ⟨rfl, hv⟩
                  · have k1 : IntKind.i64.wrap ((n : Int) * 1048576) = (n : Int) * 1048576 := by first | (simp; done) | (rw [IntKind.wrap_i64]; omega)
                    by_cases hlim : 2147483647 < n * 2 ^ 20
                    · obtain ⟨rfl, h2⟩ := Prod.mk.inj (hbig hno hlim)
                      obtain ⟨rfl, rfl⟩ := Prod.mk.inj h2
                      have k2 : (2147483647 : Int) < (n : Int) * 1048576 := by omega
                      clear hbad hbig hok hR hV hE hS hL hD h2 hno hlim
                      go_wp2_with (first | (go_at_call 146; with_reducible refine (HDk.out _).mono ?_; rintro e w1 ⟨rfl, rfl⟩) | (go_at_call 145; with_reducible refine (HA.out _).mono ?_; rintro e w1 ⟨rfl, rfl⟩) | (go_at_call 145; with_reducible refine (HA2.out _).mono ?_; rintro e w1 ⟨rfl, rfl⟩) | (go_at_call 134; refine (HL.out _).mono ?_; rintro e w1 ⟨rfl, rfl⟩) | (go_at_call 146; refine (HD.out _).mono ?_; rintro e w1 ⟨rfl, rfl⟩))
                      all_goals (go_ret3; first | exact ⟨rfl, rfl⟩ | exact ⟨by simp, rfl⟩)
                    · have k3 : ((n * 2 ^ 20 : Nat) : Int) = (n : Int) * 1048576 := by omega
                      have hk : (r1, r2, r3) = ((0 : Int), (n : Int) * 1048576, k + 1) := (hok hno hlim).trans (by rw [← k3])
                      obtain ⟨rfl, h2⟩ := Prod.mk.inj hk
                      obtain ⟨rfl, rfl⟩ := Prod.mk.inj h2
                      have k2 : ¬ (2147483647 : Int) < (n : Int) * 1048576 := by omega
                      clear hk hbad hbig hok hR hV hE hS hL hD h2 hno hlim k3
                      go_wp2_with (first | (go_at_call 146; with_reducible refine (HDk.out _).mono ?_; rintro e w1 ⟨rfl, rfl⟩) | (go_at_call 145; with_reducible refine (HA.out _).mono ?_; rintro e w1 ⟨rfl, rfl⟩) | (go_at_call 145; with_reducible refine (HA2.out _).mono ?_; rintro e w1 ⟨rfl, rfl⟩) | (go_at_call 134; refine (HL.out _).mono ?_; rintro e w1 ⟨rfl, rfl⟩) | (go_at_call 146; refine (HD.out _).mono ?_; rintro e w1 ⟨rfl, rfl⟩))
                      all_goals (go_ret3; first | exact ⟨rfl, rfl⟩ | exact ⟨by simp, rfl⟩)
                  · obtain ⟨rfl, h2⟩ := Prod.mk.inj (hbig hno (by omega))
                    obtain ⟨rfl, rfl⟩ := Prod.mk.inj h2
                    clear hbad hbig hok hR hV hE hS hL hD h2 hno hv
                    go_wp2_with (first | (go_at_call 146; with_reducible refine (HDk.out _).mono ?_; rintro e w1 ⟨rfl, rfl⟩) | (go_at_call 145; with_reducible refine (HA.out _).mono ?_; rintro e w1 ⟨rfl, rfl⟩) | (go_at_call 145; with_reducible refine (HA2.out _).mono ?_; rintro e w1 ⟨rfl, rfl⟩) | (go_at_call 134; refine (HL.out _).mono ?_; rintro e w1 ⟨rfl, rfl⟩) | (go_at_call 146; refine (HD.out _).mono ?_; rintro e w1 ⟨rfl, rfl⟩))
                    all_goals (go_ret3; first | exact ⟨rfl, rfl⟩ | exact ⟨by simp, rfl⟩)
            · rw [h] at HA
              have HA := Lib.hid HA
              clear h
              have hb2 := nx_byte s (k + 1)
              have HA2 : ∀ w, Calls Tryd.prog 145 #[.string s, .int .i64 ((k : Int) + 1)] w fun e w' => e = .returned (.int .u8 (nx s (k + 1))) ∧ w = w' := fun w => at_calls s (k + 1) w (by omega) (by omega)
              have HA2 := Lib.hid HA2
              have HL := fun w => letterByte_calls (nx s (k + 1)) w hb2.1 hb2.2
              have HD := fun w => digitByte_calls (nx s (k + 1)) w hb2.1 hb2.2
              have hbad := fun h => num_bad (e2 := k + 1) hE hS h
              have hbig := fun h h2 => num_big (e2 := k + 1) hV hE hS h h2
              have hok := fun h h2 => num_ok (e2 := k + 1) hV hE hS h h2
              rw [hR] at hbad hbig hok
              cases hL : letterB (nx s (k + 1)) with
              | true =>
                obtain ⟨rfl, h2⟩ := Prod.mk.inj (hbad (.inl hL))
                obtain ⟨rfl, rfl⟩ := Prod.mk.inj h2
                rw [hL] at HL
                have HL := Lib.hid HL
                clear hbad hbig hok hR hV hE hS hL hov HD h2
                go_wp2_with (first | (go_at_call 146; with_reducible refine (HDk.out _).mono ?_; rintro e w1 ⟨rfl, rfl⟩) | (go_at_call 145; with_reducible refine (HA.out _).mono ?_; rintro e w1 ⟨rfl, rfl⟩) | (go_at_call 145; with_reducible refine (HA2.out _).mono ?_; rintro e w1 ⟨rfl, rfl⟩) | (go_at_call 134; refine (HL.out _).mono ?_; rintro e w1 ⟨rfl, rfl⟩) | (go_at_call 146; refine (HD.out _).mono ?_; rintro e w1 ⟨rfl, rfl⟩))
                all_goals (go_ret3; first | exact ⟨rfl, rfl⟩ | exact ⟨by simp, rfl⟩)
              | false =>
                rw [hL] at HL
                have HL := Lib.hid HL
                cases hD : digitB (nx s (k + 1)) with
                | true =>
                  obtain ⟨rfl, h2⟩ := Prod.mk.inj (hbad (.inr hD))
                  obtain ⟨rfl, rfl⟩ := Prod.mk.inj h2
                  rw [hD] at HD
                  have HD := Lib.hid HD
                  clear hbad hbig hok hR hV hE hS hL hov hD h2
                  go_wp2_with (first | (go_at_call 146; with_reducible refine (HDk.out _).mono ?_; rintro e w1 ⟨rfl, rfl⟩) | (go_at_call 145; with_reducible refine (HA.out _).mono ?_; rintro e w1 ⟨rfl, rfl⟩) | (go_at_call 145; with_reducible refine (HA2.out _).mono ?_; rintro e w1 ⟨rfl, rfl⟩) | (go_at_call 134; refine (HL.out _).mono ?_; rintro e w1 ⟨rfl, rfl⟩) | (go_at_call 146; refine (HD.out _).mono ?_; rintro e w1 ⟨rfl, rfl⟩))
                  all_goals (go_ret3; first | exact ⟨rfl, rfl⟩ | exact ⟨by simp, rfl⟩)
                | false =>
                  have hno : ¬ (letterB (nx s (k + 1)) = true ∨ digitB (nx s (k + 1)) = true) := by rw [hL, hD]; decide
                  rw [hD] at HD
                  have HD := Lib.hid HD
                  rcases hov with ⟨rfl, rfl⟩ | ⟨rfl, hv⟩
                  · have k1 : IntKind.i64.wrap ((n : Int) * 1048576) = (n : Int) * 1048576 := by first | (simp; done) | (rw [IntKind.wrap_i64]; omega)
                    by_cases hlim : 2147483647 < n * 2 ^ 20
                    · obtain ⟨rfl, h2⟩ := Prod.mk.inj (hbig hno hlim)
                      obtain ⟨rfl, rfl⟩ := Prod.mk.inj h2
                      have k2 : (2147483647 : Int) < (n : Int) * 1048576 := by omega
                      clear hbad hbig hok hR hV hE hS hL hD h2 hno hlim
                      go_wp2_with (first | (go_at_call 146; with_reducible refine (HDk.out _).mono ?_; rintro e w1 ⟨rfl, rfl⟩) | (go_at_call 145; with_reducible refine (HA.out _).mono ?_; rintro e w1 ⟨rfl, rfl⟩) | (go_at_call 145; with_reducible refine (HA2.out _).mono ?_; rintro e w1 ⟨rfl, rfl⟩) | (go_at_call 134; refine (HL.out _).mono ?_; rintro e w1 ⟨rfl, rfl⟩) | (go_at_call 146; refine (HD.out _).mono ?_; rintro e w1 ⟨rfl, rfl⟩))
                      all_goals (go_ret3; first | exact ⟨rfl, rfl⟩ | exact ⟨by simp, rfl⟩)
                    · have k3 : ((n * 2 ^ 20 : Nat) : Int) = (n : Int) * 1048576 := by omega
                      have hk : (r1, r2, r3) = ((0 : Int), (n : Int) * 1048576, k + 1) := (hok hno hlim).trans (by rw [← k3])
                      obtain ⟨rfl, h2⟩ := Prod.mk.inj hk
                      obtain ⟨rfl, rfl⟩ := Prod.mk.inj h2
                      have k2 : ¬ (2147483647 : Int) < (n : Int) * 1048576 := by omega
                      clear hk hbad hbig hok hR hV hE hS hL hD h2 hno hlim k3
                      go_wp2_with (first | (go_at_call 146; with_reducible refine (HDk.out _).mono ?_; rintro e w1 ⟨rfl, rfl⟩) | (go_at_call 145; with_reducible refine (HA.out _).mono ?_; rintro e w1 ⟨rfl, rfl⟩) | (go_at_call 145; with_reducible refine (HA2.out _).mono ?_; rintro e w1 ⟨rfl, rfl⟩) | (go_at_call 134; refine (HL.out _).mono ?_; rintro e w1 ⟨rfl, rfl⟩) | (go_at_call 146; refine (HD.out _).mono ?_; rintro e w1 ⟨rfl, rfl⟩))
                      all_goals (go_ret3; first | exact ⟨rfl, rfl⟩ | exact ⟨by simp, rfl⟩)
                  · obtain ⟨rfl, h2⟩ := Prod.mk.inj (hbig hno (by omega))
                    obtain ⟨rfl, rfl⟩ := Prod.mk.inj h2
                    clear hbad hbig hok hR hV hE hS hL hD h2 hno hv
                    go_wp2_with (first | (go_at_call 146; with_reducible refine (HDk.out _).mono ?_; rintro e w1 ⟨rfl, rfl⟩) | (go_at_call 145; with_reducible refine (HA.out _).mono ?_; rintro e w1 ⟨rfl, rfl⟩) | (go_at_call 145; with_reducible refine (HA2.out _).mono ?_; rintro e w1 ⟨rfl, rfl⟩) | (go_at_call 134; refine (HL.out _).mono ?_; rintro e w1 ⟨rfl, rfl⟩) | (go_at_call 146; refine (HD.out _).mono ?_; rintro e w1 ⟨rfl, rfl⟩))
                    all_goals (go_ret3; first | exact ⟨rfl, rfl⟩ | exact ⟨by simp, rfl⟩)
          · have hS : shiftAt s k = (0, k) := by unfold shiftAt; rw [if_neg hK, if_neg hM]
            have f1 : (nx s k == 75) = false := by rw [beq_eq_false_iff_ne]; omega
            have f2 : (nx s k == 107) = false := by rw [beq_eq_false_iff_ne]; omega
            have f3 : (nx s k == 77) = false := by rw [beq_eq_false_iff_ne]; omega
            have f4 : (nx s k == 109) = false := by rw [beq_eq_false_iff_ne]; omega
            have HA := Lib.hid HA
            clear hK hM
            have hb2 := nx_byte s (k)
            have HA2 : ∀ w, Calls Tryd.prog 145 #[.string s, .int .i64 (k : Int)] w fun e w' => e = .returned (.int .u8 (nx s (k))) ∧ w = w' := fun w => at_calls s (k) w (by omega) (by omega)
            have HA2 := Lib.hid HA2
            have HL := fun w => letterByte_calls (nx s (k)) w hb2.1 hb2.2
            have HD := fun w => digitByte_calls (nx s (k)) w hb2.1 hb2.2
            have hbad := fun h => num_bad (e2 := k) hE hS h
            have hbig := fun h h2 => num_big (e2 := k) hV hE hS h h2
            have hok := fun h h2 => num_ok (e2 := k) hV hE hS h h2
            rw [hR] at hbad hbig hok
            cases hL : letterB (nx s (k)) with
            | true =>
              obtain ⟨rfl, h2⟩ := Prod.mk.inj (hbad (.inl hL))
              obtain ⟨rfl, rfl⟩ := Prod.mk.inj h2
              rw [hL] at HL
              have HL := Lib.hid HL
              clear hbad hbig hok hR hV hE hS hL hov HD h2
              go_wp2_with (first | (go_at_call 146; with_reducible refine (HDk.out _).mono ?_; rintro e w1 ⟨rfl, rfl⟩) | (go_at_call 145; with_reducible refine (HA.out _).mono ?_; rintro e w1 ⟨rfl, rfl⟩) | (go_at_call 145; with_reducible refine (HA2.out _).mono ?_; rintro e w1 ⟨rfl, rfl⟩) | (go_at_call 134; refine (HL.out _).mono ?_; rintro e w1 ⟨rfl, rfl⟩) | (go_at_call 146; refine (HD.out _).mono ?_; rintro e w1 ⟨rfl, rfl⟩))
              all_goals (go_ret3; first | exact ⟨rfl, rfl⟩ | exact ⟨by simp, rfl⟩)
            | false =>
              rw [hL] at HL
              have HL := Lib.hid HL
              cases hD : digitB (nx s (k)) with
              | true =>
                obtain ⟨rfl, h2⟩ := Prod.mk.inj (hbad (.inr hD))
                obtain ⟨rfl, rfl⟩ := Prod.mk.inj h2
                rw [hD] at HD
                have HD := Lib.hid HD
                clear hbad hbig hok hR hV hE hS hL hov hD h2
                go_wp2_with (first | (go_at_call 146; with_reducible refine (HDk.out _).mono ?_; rintro e w1 ⟨rfl, rfl⟩) | (go_at_call 145; with_reducible refine (HA.out _).mono ?_; rintro e w1 ⟨rfl, rfl⟩) | (go_at_call 145; with_reducible refine (HA2.out _).mono ?_; rintro e w1 ⟨rfl, rfl⟩) | (go_at_call 134; refine (HL.out _).mono ?_; rintro e w1 ⟨rfl, rfl⟩) | (go_at_call 146; refine (HD.out _).mono ?_; rintro e w1 ⟨rfl, rfl⟩))
                all_goals (go_ret3; first | exact ⟨rfl, rfl⟩ | exact ⟨by simp, rfl⟩)
              | false =>
                have hno : ¬ (letterB (nx s (k)) = true ∨ digitB (nx s (k)) = true) := by rw [hL, hD]; decide
                rw [hD] at HD
                have HD := Lib.hid HD
                rcases hov with ⟨rfl, rfl⟩ | ⟨rfl, hv⟩
                · have k1 : IntKind.i64.wrap ((n : Int) * 1) = (n : Int) * 1 := by first | (simp; done) | (rw [IntKind.wrap_i64]; omega)
                  by_cases hlim : 2147483647 < n * 2 ^ 0
                  · obtain ⟨rfl, h2⟩ := Prod.mk.inj (hbig hno hlim)
                    obtain ⟨rfl, rfl⟩ := Prod.mk.inj h2
                    have k2 : (2147483647 : Int) < (n : Int) * 1 := by omega
                    clear hbad hbig hok hR hV hE hS hL hD h2 hno hlim
                    go_wp2_with (first | (go_at_call 146; with_reducible refine (HDk.out _).mono ?_; rintro e w1 ⟨rfl, rfl⟩) | (go_at_call 145; with_reducible refine (HA.out _).mono ?_; rintro e w1 ⟨rfl, rfl⟩) | (go_at_call 145; with_reducible refine (HA2.out _).mono ?_; rintro e w1 ⟨rfl, rfl⟩) | (go_at_call 134; refine (HL.out _).mono ?_; rintro e w1 ⟨rfl, rfl⟩) | (go_at_call 146; refine (HD.out _).mono ?_; rintro e w1 ⟨rfl, rfl⟩))
                    all_goals (go_ret3; first | exact ⟨rfl, rfl⟩ | exact ⟨by simp, rfl⟩)
                  · have k3 : ((n * 2 ^ 0 : Nat) : Int) = (n : Int) * 1 := by omega
                    have hk : (r1, r2, r3) = ((0 : Int), (n : Int) * 1, k) := (hok hno hlim).trans (by rw [← k3])
                    obtain ⟨rfl, h2⟩ := Prod.mk.inj hk
                    obtain ⟨rfl, rfl⟩ := Prod.mk.inj h2
                    have k2 : ¬ (2147483647 : Int) < (n : Int) * 1 := by omega
                    clear hk hbad hbig hok hR hV hE hS hL hD h2 hno hlim k3
                    go_wp2_with (first | (go_at_call 146; with_reducible refine (HDk.out _).mono ?_; rintro e w1 ⟨rfl, rfl⟩) | (go_at_call 145; with_reducible refine (HA.out _).mono ?_; rintro e w1 ⟨rfl, rfl⟩) | (go_at_call 145; with_reducible refine (HA2.out _).mono ?_; rintro e w1 ⟨rfl, rfl⟩) | (go_at_call 134; refine (HL.out _).mono ?_; rintro e w1 ⟨rfl, rfl⟩) | (go_at_call 146; refine (HD.out _).mono ?_; rintro e w1 ⟨rfl, rfl⟩))
                    all_goals (go_ret3; first | exact ⟨rfl, rfl⟩ | exact ⟨by simp, rfl⟩)
                · obtain ⟨rfl, h2⟩ := Prod.mk.inj (hbig hno (by omega))
                  obtain ⟨rfl, rfl⟩ := Prod.mk.inj h2
                  clear hbad hbig hok hR hV hE hS hL hD h2 hno hv
                  go_wp2_with (first | (go_at_call 146; with_reducible refine (HDk.out _).mono ?_; rintro e w1 ⟨rfl, rfl⟩) | (go_at_call 145; with_reducible refine (HA.out _).mono ?_; rintro e w1 ⟨rfl, rfl⟩) | (go_at_call 145; with_reducible refine (HA2.out _).mono ?_; rintro e w1 ⟨rfl, rfl⟩) | (go_at_call 134; refine (HL.out _).mono ?_; rintro e w1 ⟨rfl, rfl⟩) | (go_at_call 146; refine (HD.out _).mono ?_; rintro e w1 ⟨rfl, rfl⟩))
                  all_goals (go_ret3; first | exact ⟨rfl, rfl⟩ | exact ⟨by simp, rfl⟩)
      · have i1 : ¬ (k : Int) < (s.size : Int) := by omega
        have h0 := nx_out hks
        have hS : shiftAt s k = (0, k) := by unfold shiftAt; rw [if_neg (by omega), if_neg (by omega)]
        have f1 : (nx s k == 75) = false := by rw [beq_eq_false_iff_ne]; omega
        have f2 : (nx s k == 107) = false := by rw [beq_eq_false_iff_ne]; omega
        have f3 : (nx s k == 77) = false := by rw [beq_eq_false_iff_ne]; omega
        have f4 : (nx s k == 109) = false := by rw [beq_eq_false_iff_ne]; omega
        have HA := Lib.hid HA
        clear h0
        have hb2 := nx_byte s (k)
        have HA2 : ∀ w, Calls Tryd.prog 145 #[.string s, .int .i64 (k : Int)] w fun e w' => e = .returned (.int .u8 (nx s (k))) ∧ w = w' := fun w => at_calls s (k) w (by omega) (by omega)
        have HA2 := Lib.hid HA2
        have HL := fun w => letterByte_calls (nx s (k)) w hb2.1 hb2.2
        have HD := fun w => digitByte_calls (nx s (k)) w hb2.1 hb2.2
        have hbad := fun h => num_bad (e2 := k) hE hS h
        have hbig := fun h h2 => num_big (e2 := k) hV hE hS h h2
        have hok := fun h h2 => num_ok (e2 := k) hV hE hS h h2
        rw [hR] at hbad hbig hok
        cases hL : letterB (nx s (k)) with
        | true =>
          obtain ⟨rfl, h2⟩ := Prod.mk.inj (hbad (.inl hL))
          obtain ⟨rfl, rfl⟩ := Prod.mk.inj h2
          rw [hL] at HL
          have HL := Lib.hid HL
          clear hbad hbig hok hR hV hE hS hL hov HD h2
          go_wp2_with (first | (go_at_call 146; with_reducible refine (HDk.out _).mono ?_; rintro e w1 ⟨rfl, rfl⟩) | (go_at_call 145; with_reducible refine (HA.out _).mono ?_; rintro e w1 ⟨rfl, rfl⟩) | (go_at_call 145; with_reducible refine (HA2.out _).mono ?_; rintro e w1 ⟨rfl, rfl⟩) | (go_at_call 134; refine (HL.out _).mono ?_; rintro e w1 ⟨rfl, rfl⟩) | (go_at_call 146; refine (HD.out _).mono ?_; rintro e w1 ⟨rfl, rfl⟩))
          all_goals (go_ret3; first | exact ⟨rfl, rfl⟩ | exact ⟨by simp, rfl⟩)
        | false =>
          rw [hL] at HL
          have HL := Lib.hid HL
          cases hD : digitB (nx s (k)) with
          | true =>
            obtain ⟨rfl, h2⟩ := Prod.mk.inj (hbad (.inr hD))
            obtain ⟨rfl, rfl⟩ := Prod.mk.inj h2
            rw [hD] at HD
            have HD := Lib.hid HD
            clear hbad hbig hok hR hV hE hS hL hov hD h2
            go_wp2_with (first | (go_at_call 146; with_reducible refine (HDk.out _).mono ?_; rintro e w1 ⟨rfl, rfl⟩) | (go_at_call 145; with_reducible refine (HA.out _).mono ?_; rintro e w1 ⟨rfl, rfl⟩) | (go_at_call 145; with_reducible refine (HA2.out _).mono ?_; rintro e w1 ⟨rfl, rfl⟩) | (go_at_call 134; refine (HL.out _).mono ?_; rintro e w1 ⟨rfl, rfl⟩) | (go_at_call 146; refine (HD.out _).mono ?_; rintro e w1 ⟨rfl, rfl⟩))
            all_goals (go_ret3; first | exact ⟨rfl, rfl⟩ | exact ⟨by simp, rfl⟩)
          | false =>
            have hno : ¬ (letterB (nx s (k)) = true ∨ digitB (nx s (k)) = true) := by rw [hL, hD]; decide
            rw [hD] at HD
            have HD := Lib.hid HD
            rcases hov with ⟨rfl, rfl⟩ | ⟨rfl, hv⟩
            · have k1 : IntKind.i64.wrap ((n : Int) * 1) = (n : Int) * 1 := by first | (simp; done) | (rw [IntKind.wrap_i64]; omega)
              by_cases hlim : 2147483647 < n * 2 ^ 0
              · obtain ⟨rfl, h2⟩ := Prod.mk.inj (hbig hno hlim)
                obtain ⟨rfl, rfl⟩ := Prod.mk.inj h2
                have k2 : (2147483647 : Int) < (n : Int) * 1 := by omega
                clear hbad hbig hok hR hV hE hS hL hD h2 hno hlim
                go_wp2_with (first | (go_at_call 146; with_reducible refine (HDk.out _).mono ?_; rintro e w1 ⟨rfl, rfl⟩) | (go_at_call 145; with_reducible refine (HA.out _).mono ?_; rintro e w1 ⟨rfl, rfl⟩) | (go_at_call 145; with_reducible refine (HA2.out _).mono ?_; rintro e w1 ⟨rfl, rfl⟩) | (go_at_call 134; refine (HL.out _).mono ?_; rintro e w1 ⟨rfl, rfl⟩) | (go_at_call 146; refine (HD.out _).mono ?_; rintro e w1 ⟨rfl, rfl⟩))
                all_goals (go_ret3; first | exact ⟨rfl, rfl⟩ | exact ⟨by simp, rfl⟩)
              · have k3 : ((n * 2 ^ 0 : Nat) : Int) = (n : Int) * 1 := by omega
                have hk : (r1, r2, r3) = ((0 : Int), (n : Int) * 1, k) := (hok hno hlim).trans (by rw [← k3])
                obtain ⟨rfl, h2⟩ := Prod.mk.inj hk
                obtain ⟨rfl, rfl⟩ := Prod.mk.inj h2
                have k2 : ¬ (2147483647 : Int) < (n : Int) * 1 := by omega
                clear hk hbad hbig hok hR hV hE hS hL hD h2 hno hlim k3
                go_wp2_with (first | (go_at_call 146; with_reducible refine (HDk.out _).mono ?_; rintro e w1 ⟨rfl, rfl⟩) | (go_at_call 145; with_reducible refine (HA.out _).mono ?_; rintro e w1 ⟨rfl, rfl⟩) | (go_at_call 145; with_reducible refine (HA2.out _).mono ?_; rintro e w1 ⟨rfl, rfl⟩) | (go_at_call 134; refine (HL.out _).mono ?_; rintro e w1 ⟨rfl, rfl⟩) | (go_at_call 146; refine (HD.out _).mono ?_; rintro e w1 ⟨rfl, rfl⟩))
                all_goals (go_ret3; first | exact ⟨rfl, rfl⟩ | exact ⟨by simp, rfl⟩)
            · obtain ⟨rfl, h2⟩ := Prod.mk.inj (hbig hno (by omega))
              obtain ⟨rfl, rfl⟩ := Prod.mk.inj h2
              clear hbad hbig hok hR hV hE hS hL hD h2 hno hv
              go_wp2_with (first | (go_at_call 146; with_reducible refine (HDk.out _).mono ?_; rintro e w1 ⟨rfl, rfl⟩) | (go_at_call 145; with_reducible refine (HA.out _).mono ?_; rintro e w1 ⟨rfl, rfl⟩) | (go_at_call 145; with_reducible refine (HA2.out _).mono ?_; rintro e w1 ⟨rfl, rfl⟩) | (go_at_call 134; refine (HL.out _).mono ?_; rintro e w1 ⟨rfl, rfl⟩) | (go_at_call 146; refine (HD.out _).mono ?_; rintro e w1 ⟨rfl, rfl⟩))
              all_goals (go_ret3; first | exact ⟨rfl, rfl⟩ | exact ⟨by simp, rfl⟩)
end Go.Proofs.YtpeenmbonhijmaaDoor.H
