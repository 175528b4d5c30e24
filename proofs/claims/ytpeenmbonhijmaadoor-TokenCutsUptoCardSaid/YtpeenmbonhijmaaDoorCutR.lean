/- Scripts cut into tokens: the reference's at and silent: the walks. -/
import Derived.Test.YtpeenmbonhijmaaDoorCutD
namespace Go.Proofs.YtpeenmbonhijmaaDoor.H
open Go.RowKit Go.Proofs.YtpeenmbonhijmaaDoorW.PrintWords Go.Proofs.YtpeenmbonhijmaaDoorW.PrintLast Go.Proofs.YtpeenmbonhijmaaDoorW.PrintMore Go.Proofs.YtpeenmbonhijmaaDoor.U
set_option linter.unusedVariables false
set_option linter.unusedSimpArgs false
theorem at_calls (s : ByteArray) (i : Nat) (w : World) (hi : i ≤ 9223372036854775806) (hs : s.size ≤ 9223372036854775806) : Calls Tryd.prog 145 #[.string s, .int .i64 i] w fun e w' => e = .returned (.int .u8 (nx s i)) ∧ w = w' := by
  by_cases h : i < s.size
  · rw [nx_in h]
    have h1 : (i : Int) < (s.size : Int) := by omega
    have h0 : (0 : Int) ≤ (i : Int) := by omega
    go_enter Tryd.func145, Tryd.ntmps145
    go_wp2
    go_ret
    exact ⟨by simp, rfl⟩
  · rw [nx_out h]
    have h1 : ¬ (i : Int) < (s.size : Int) := by omega
    go_enter Tryd.func145, Tryd.ntmps145
    go_wp2
    go_ret
    exact ⟨by simp, rfl⟩
set_option maxHeartbeats 8000000 in
set_option maxRecDepth 100000 in
theorem rsilent_calls (s : ByteArray) (i : Nat) (w : World) (hi : i ≤ s.size) (hs : s.size ≤ 1048576) :
    Calls Tryd.prog 92 #[.string s, .int .i64 i] w fun e w' => e = .returned (.tuple #[.int .i64 (silent s i).1, .bool (silent s i).2]) ∧ w = w' := by
  generalize hR : silent s i = R
  obtain ⟨r1, r2⟩ := R
  go_enter Tryd.func92, Tryd.ntmps92
  go_wp2_with fail
  go_loopw [1] (fun v wr => ∃ k : Nat, k ≤ s.size ∧ v = .int .i64 k ∧ silent s k = (r1, r2) ∧ w = wr) (fun v _ => s.size - (intOf v).toNat)
  case atStart => exact ⟨i, hi, rfl, hR, rfl⟩
  case round =>
    clear hR
    obtain ⟨k, hk, rfl, hR, rfl⟩ := hrel
    have i0 : (0 : Int) ≤ (k : Int) := by omega
    by_cases hlt : k < s.size
    · have i1 : (k : Int) < (s.size : Int) := by omega
      have b0 := s[k].toNat_lt
      cases hb : wsB s[k].toNat with
      | true =>
        rw [silent_blank hlt hb] at hR
        have hb4 : s[k].toNat = 32 ∨ s[k].toNat = 9 ∨ s[k].toNat = 13 ∨ s[k].toNat = 10 := by
          simp only [wsB, Bool.or_eq_true, decide_eq_true_eq] at hb; omega
        have hR := Lib.hid hR
        clear hb
        rcases hb4 with h | h | h | h
        · have e1 : ((s[k].toNat : Int) == 32) = true := by first | (rw [beq_iff_eq]; omega) | (rw [beq_eq_false_iff_ne]; omega)
          have e2 : ((s[k].toNat : Int) == 9) = false := by first | (rw [beq_iff_eq]; omega) | (rw [beq_eq_false_iff_ne]; omega)
          have e3 : ((s[k].toNat : Int) == 13) = false := by first | (rw [beq_iff_eq]; omega) | (rw [beq_eq_false_iff_ne]; omega)
          have e4 : ((s[k].toNat : Int) == 10) = false := by first | (rw [beq_iff_eq]; omega) | (rw [beq_eq_false_iff_ne]; omega)
          clear h
          go_wp2_with fail
          go_roundw
          case rel => exact ⟨k + 1, hlt, by go_num, hR.out, by trivial⟩
          case measure => simp [intOf]; omega
        · have e1 : ((s[k].toNat : Int) == 32) = false := by first | (rw [beq_iff_eq]; omega) | (rw [beq_eq_false_iff_ne]; omega)
          have e2 : ((s[k].toNat : Int) == 9) = true := by first | (rw [beq_iff_eq]; omega) | (rw [beq_eq_false_iff_ne]; omega)
          have e3 : ((s[k].toNat : Int) == 13) = false := by first | (rw [beq_iff_eq]; omega) | (rw [beq_eq_false_iff_ne]; omega)
          have e4 : ((s[k].toNat : Int) == 10) = false := by first | (rw [beq_iff_eq]; omega) | (rw [beq_eq_false_iff_ne]; omega)
          clear h
          go_wp2_with fail
          go_roundw
          case rel => exact ⟨k + 1, hlt, by go_num, hR.out, by trivial⟩
          case measure => simp [intOf]; omega
        · have e1 : ((s[k].toNat : Int) == 32) = false := by first | (rw [beq_iff_eq]; omega) | (rw [beq_eq_false_iff_ne]; omega)
          have e2 : ((s[k].toNat : Int) == 9) = false := by first | (rw [beq_iff_eq]; omega) | (rw [beq_eq_false_iff_ne]; omega)
          have e3 : ((s[k].toNat : Int) == 13) = true := by first | (rw [beq_iff_eq]; omega) | (rw [beq_eq_false_iff_ne]; omega)
          have e4 : ((s[k].toNat : Int) == 10) = false := by first | (rw [beq_iff_eq]; omega) | (rw [beq_eq_false_iff_ne]; omega)
          clear h
          go_wp2_with fail
          go_roundw
          case rel => exact ⟨k + 1, hlt, by go_num, hR.out, by trivial⟩
          case measure => simp [intOf]; omega
        · have e1 : ((s[k].toNat : Int) == 32) = false := by first | (rw [beq_iff_eq]; omega) | (rw [beq_eq_false_iff_ne]; omega)
          have e2 : ((s[k].toNat : Int) == 9) = false := by first | (rw [beq_iff_eq]; omega) | (rw [beq_eq_false_iff_ne]; omega)
          have e3 : ((s[k].toNat : Int) == 13) = false := by first | (rw [beq_iff_eq]; omega) | (rw [beq_eq_false_iff_ne]; omega)
          have e4 : ((s[k].toNat : Int) == 10) = true := by first | (rw [beq_iff_eq]; omega) | (rw [beq_eq_false_iff_ne]; omega)
          clear h
          go_wp2_with fail
          go_roundw
          case rel => exact ⟨k + 1, hlt, by go_num, hR.out, by trivial⟩
          case measure => simp [intOf]; omega
      | false =>
        have hsp := spanEnd_no wsB hlt hb
        have hn4 : s[k].toNat ≠ 32 ∧ s[k].toNat ≠ 9 ∧ s[k].toNat ≠ 13 ∧ s[k].toNat ≠ 10 := by
          simp only [wsB, Bool.or_eq_false_iff, decide_eq_false_iff_not] at hb; omega
        obtain ⟨n1, n2, n3, n4⟩ := hn4
        have e1 : ((s[k].toNat : Int) == 32) = false := by rw [beq_eq_false_iff_ne]; omega
        have e2 : ((s[k].toNat : Int) == 9) = false := by rw [beq_eq_false_iff_ne]; omega
        have e3 : ((s[k].toNat : Int) == 13) = false := by rw [beq_eq_false_iff_ne]; omega
        have e4 : ((s[k].toNat : Int) == 10) = false := by rw [beq_eq_false_iff_ne]; omega
        clear n1 n2 n3 n4
        have hh := fun h => silent_hash (s := s) (i := k) hk h
        have hso := fun e h h' h2 => silent_some (s := s) (i := k) (e := e) hk h h' h2
        have hno := fun h h' h2 => silent_none (s := s) (i := k) h h' h2
        have hen := fun h h' => silent_end (s := s) (i := k) h h'
        rw [hR, hsp] at hh hso hno hen
        rw [nx_in hlt] at hh hso hno hen
        by_cases h35 : s[k].toNat = 35
        · have e5 : ((s[k].toNat : Int) == 35) = true := by rw [beq_iff_eq]; omega
          obtain ⟨hq, h1, h2⟩ := hh (by omega)
          have hq := Lib.hid hq
          clear hh hso hno hen h35 hb hsp hR
          go_wp2_with fail
          generalize hQ : spanEnd lineB s k = Q at *
          go_loopw [1] (fun v wr => ∃ q : Nat, k ≤ q ∧ q ≤ s.size ∧ v = .int .i64 q ∧ spanEnd lineB s q = Q ∧ w = wr) (fun v _ => s.size - (intOf v).toNat)
          case atStart => exact ⟨k, Nat.le_refl _, hk, rfl, hQ, rfl⟩
          case round =>
            obtain ⟨q, hkq, hqs, rfl, hQ2, rfl⟩ := hrel
            have j0 : (0 : Int) ≤ (q : Int) := by omega
            clear hQ
            by_cases hl2 : q < s.size
            · have j1 : (q : Int) < (s.size : Int) := by omega
              have bq := s[q].toNat_lt
              by_cases h10 : s[q].toNat = 10
              · have f1 : ((s[q].toNat : Int) != 10) = false := by rw [bne_eq_false_iff_eq]; omega
                rw [spanEnd_no lineB hl2 (by simp [lineB, h10])] at hQ2
                subst hQ2
                clear h10
                go_wp2_with fail
                go_roundw
                case rel => exact ⟨q, hqs, rfl, hq.out.symm, by trivial⟩
                case measure => simp [intOf]; omega
              · have f1 : ((s[q].toNat : Int) != 10) = true := by rw [bne_iff_ne]; omega
                rw [spanEnd_yes lineB hl2 (by simp [lineB]; omega)] at hQ2
                have hQ2 := Lib.hid hQ2
                clear h10
                go_wp2_with fail
                go_roundw
                case rel => exact ⟨q + 1, by omega, hl2, by go_num, hQ2.out, by trivial⟩
                case measure => simp [intOf]; omega
            · have j1 : ¬ (q : Int) < (s.size : Int) := by omega
              rw [spanEnd_end lineB hl2] at hQ2
              subst hQ2
              go_wp2_with fail
              go_roundw
              case rel => exact ⟨q, hqs, rfl, hq.out.symm, by trivial⟩
              case measure => simp [intOf]; omega
        · have e5 : ((s[k].toNat : Int) == 35) = false := by rw [beq_eq_false_iff_ne]; omega
          replace hen := hen (by omega)
          clear hh
          have HA := Lib.hid (fun w => at_calls s (k + 1) w (by omega) (by omega))
          by_cases h47 : s[k].toNat = 47
          · have e6 : ((s[k].toNat : Int) != 47) = false := by rw [bne_eq_false_iff_eq]; omega
            by_cases h42 : nx s (k + 1) = 42
            · have hj3 : k + 2 ≤ s.size := by have := nx_lt (s := s) (i := k + 1) (by rw [h42]; decide); omega
              rw [h42] at HA
              replace hso := fun e h => hso e (by omega) h42 h
              replace hno := fun h => hno (by omega) h42 h
              clear hen h42 h47 h35 hb hsp hR
              go_wp2_with (go_at_call 145; refine (HA.out _).mono ?_; rintro e w1 ⟨rfl, rfl⟩)
              generalize hQ : starAt s (k + 2) = Q at *
              go_loopw [7] (fun v wr => ∃ q : Nat, k + 2 ≤ q ∧ q ≤ s.size ∧ v = .int .i64 q ∧ starAt s q = Q ∧ w = wr) (fun v _ => s.size - (intOf v).toNat)
              case atStart => exact ⟨k + 2, Nat.le_refl _, hj3, by go_num, hQ, rfl⟩
              case round =>
                obtain ⟨q, hkq, hqs, rfl, hQ2, rfl⟩ := hrel
                clear hQ
                have j0 : (0 : Int) ≤ (q : Int) := by omega
                have j4 : (0 : Int) ≤ (q : Int) + 1 := by omega
                rw [starAt] at hQ2
                by_cases hl2 : q + 1 < s.size
                · rw [if_pos hl2] at hQ2
                  have hl3 : q < s.size := by omega
                  have j1 : (q : Int) < (s.size : Int) := by omega
                  have j2 : (q : Int) + 1 < (s.size : Int) := by omega
                  have j3 : ¬ (s.size : Int) ≤ (q : Int) + 1 := by omega
                  rw [nx_in hl2, nx_in hl3] at hQ2
                  have bq := s[q].toNat_lt
                  have bq2 := s[q + 1].toNat_lt
                  by_cases h1 : s[q].toNat = 42
                  · have f1 : ((s[q].toNat : Int) != 42) = false := by rw [bne_eq_false_iff_eq]; omega
                    by_cases h2 : s[q + 1].toNat = 47
                    · have f2 : ((s[q + 1].toNat : Int) != 47) = false := by rw [bne_eq_false_iff_eq]; omega
                      rw [if_pos ⟨by omega, by omega⟩] at hQ2
                      subst hQ2
                      obtain ⟨hq, h3, h4⟩ := hso q rfl
                      have hq := Lib.hid hq
                      clear hso hno h1 h2
                      go_wp2_with fail
                      go_roundw
                      case rel => exact ⟨q + 2, h4, by go_num, hq.out.symm, by trivial⟩
                      case measure => simp [intOf]; omega
                    · have f2 : ((s[q + 1].toNat : Int) != 47) = true := by rw [bne_iff_ne]; omega
                      rw [if_neg (by omega)] at hQ2
                      have hQ2 := Lib.hid hQ2
                      have hso := Lib.hid hso
                      have hno := Lib.hid hno
                      clear h1 h2
                      go_wp2_with fail
                      go_roundw
                      case rel => exact ⟨q + 1, by omega, by omega, by go_num, hQ2.out, by trivial⟩
                      case measure => simp [intOf]; omega
                  · have f1 : ((s[q].toNat : Int) != 42) = true := by rw [bne_iff_ne]; omega
                    rw [if_neg (by omega)] at hQ2
                    have hQ2 := Lib.hid hQ2
                    have hso := Lib.hid hso
                    have hno := Lib.hid hno
                    clear h1
                    go_wp2_with fail
                    go_roundw
                    case rel => exact ⟨q + 1, by omega, by omega, by go_num, hQ2.out, by trivial⟩
                    case measure => simp [intOf]; omega
                · rw [if_neg hl2] at hQ2
                  subst hQ2
                  have j2 : ¬ (q : Int) + 1 < (s.size : Int) := by omega
                  have j3 : (s.size : Int) ≤ (q : Int) + 1 := by omega
                  obtain ⟨rfl, rfl⟩ := Prod.mk.inj (hno rfl)
                  clear hso hno
                  go_wp2_with fail
                  go_ret2
                  exact ⟨rfl, rfl⟩
            · have hb2 := nx_byte s (k + 1)
              have e7 : (nx s (k + 1) != 42) = true := by rw [bne_iff_ne]; exact h42
              obtain ⟨rfl, rfl⟩ := Prod.mk.inj (hen (fun h => h42 h.2))
              clear hso hno hen h47 h35 hb hsp hR h42
              go_wp2_with (go_at_call 145; refine (HA.out _).mono ?_; rintro e w1 ⟨rfl, rfl⟩)
              go_ret2
              exact ⟨rfl, rfl⟩
          · have e6 : ((s[k].toNat : Int) != 47) = true := by rw [bne_iff_ne]; omega
            obtain ⟨rfl, rfl⟩ := Prod.mk.inj (hen (fun h => h47 (by omega)))
            clear hso hno hen h47 h35 hb hsp hR
            go_wp2_with fail
            go_ret2
            exact ⟨rfl, rfl⟩
    · obtain rfl : k = s.size := by omega
      have i1 : ¬ (s.size : Int) < (s.size : Int) := by omega
      have hne : ¬ s.size < s.size := by omega
      rw [silent_end (by rw [spanEnd_end _ hne, nx_out hne]; decide) (by rw [spanEnd_end _ hne, nx_out hne]; simp), spanEnd_end _ hne] at hR
      obtain ⟨rfl, rfl⟩ := Prod.mk.inj hR
      clear hR
      go_wp2_with fail
      go_ret2
      exact ⟨rfl, rfl⟩
end Go.Proofs.YtpeenmbonhijmaaDoor.H
