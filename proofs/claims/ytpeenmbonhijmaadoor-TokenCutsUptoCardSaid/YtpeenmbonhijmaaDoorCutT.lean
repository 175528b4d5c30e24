/- Scripts cut into tokens: the reference's stringAt: the walk. -/
import Derived.Test.YtpeenmbonhijmaaDoorCutR
import Derived.Test.YtpeenmbonhijmaaDoorNums
namespace Go.Proofs.YtpeenmbonhijmaaDoor.H
open Go.RowKit Go.Proofs.YtpeenmbonhijmaaDoorW.PrintWords Go.Proofs.YtpeenmbonhijmaaDoorW.PrintLast Go.Proofs.YtpeenmbonhijmaaDoorW.PrintMore Go.Proofs.YtpeenmbonhijmaaDoor.U
set_option linter.unusedVariables false
set_option linter.unusedSimpArgs false
/-- What the reference's stringAt hands back. -/
def PostRs (w : World) (R : Option (List UInt8 × Nat)) (e : Ending) (w' : World) : Prop :=
  match R with
  | some (r, k) => e = .returned (.tuple #[.string ⟨r.toArray⟩, .int .i64 k, .bool true]) ∧ Below w.heap.size w w'
  | none => ∃ k : Nat, e = .returned (.tuple #[.string ⟨#[]⟩, .int .i64 k, .bool false]) ∧ Below w.heap.size w w'
set_option maxHeartbeats 4000000 in
set_option maxRecDepth 100000 in
theorem rstring_calls (s : ByteArray) (i : Nat) (w : World) (hi : i < s.size) (hs : s.size ≤ 1048576) :
    Calls Tryd.prog 148 #[.string s, .int .i64 i] w (PostRs w (strAt s (i + 1) [])) := by
  generalize hR : strAt s (i + 1) [] = R
  go_enter Tryd.func148, Tryd.ntmps148
  go_wp2_with fail
  go_loopw [7, 8] (fun v vi wr => ∃ (k : Nat) (acc : List UInt8), k ≤ s.size ∧ vi = .int .i64 k ∧ Kd.R (Kd.int .u8) 5 wr w.heap.size (fun _ => True) v (numsOf acc) ∧ strAt s k acc = R ∧ acc.length ≤ k ∧ Below w.heap.size w wr) (fun _ vi _ => s.size - (intOf vi).toNat)
  case atStart => exact ⟨i + 1, [], hi, by go_num, Kd.R_nil _ _ _ _ _, hR, Nat.zero_le _, Below.refl _ _⟩
  case round =>
    clear hR
    obtain ⟨k, acc, hk, rfl, hRow, hR, hacc, hB⟩ := hrel
    have hl := numsOf_len acc
    have hst := str_numsOf acc
    have hsn := fun x => numsOf_cat acc [x]
    have hzw := hB.size
    obtain ⟨A0, a0, rfl⟩ := Kd.R_slice hRow
    rw [hl] at hRow ⊢
    rw [strAt] at hR
    have i0 : (0 : Int) ≤ (k : Int) := by omega
    by_cases hlt : k < s.size
    · rw [dif_pos hlt] at hR
      have b0 := s[k].toNat_lt
      have i1 : (k : Int) < (s.size : Int) := by omega
      by_cases h34 : s[k].toNat = 34
      · rw [if_pos h34] at hR
        subst hR
        have e1 : ((s[k].toNat : Int) == 34) = true := by rw [beq_iff_eq]; omega
        have hcv := Kd.C_string (P := Tryd.prog) (src := 120) (dst := 9) (c := a0) Tryd.underlying120 Tryd.underlying5 Tryd.underlying9 (C_ofR hRow)
        rw [hst, hl] at hcv
        clear h34 hsn hl hst
        go_wp2_with fail
        go_ret3
        exact ⟨by simp, hB⟩
      · rw [if_neg h34] at hR
        have e1 : ((s[k].toNat : Int) == 34) = false := by rw [beq_eq_false_iff_ne]; omega
        by_cases h92 : s[k].toNat = 92
        · rw [if_pos h92] at hR
          have e2 : ((s[k].toNat : Int) == 92) = true := by rw [beq_iff_eq]; omega
          clear h34 h92 hst
          by_cases hk1 : k + 1 < s.size
          · rw [dif_pos hk1] at hR
            have e3 : ((k : Int) + 1 == s.size) = false := by rw [beq_eq_false_iff_ne]; omega
            have i2 : (0 : Int) ≤ (k : Int) + 1 := by omega
            have i3 : (k : Int) + 1 < (s.size : Int) := by omega
            have hR := Lib.hid hR
            replace hsn := Lib.hid (hsn s[k + 1])
            have hl := Lib.hid hl
            go_wp2_with (at_builtin; refine snoc_list rowU8 w.heap.size rfl _ _ rfl (.slice A0 acc.length a0) (numsOf acc) (s[k + 1].toNat : Int) [.int .u8 s[k + 1].toNat] rfl rfl rfl hRow (by omega) (by rw [hl.out]; omega) ?_; intro v1 w3 hR1 hb3 hg3)
            go_roundw
            case rel => exact ⟨k + 2, acc ++ [s[k + 1]], by omega, by go_num, by rw [hsn.out]; exact hR1, hR.out, by simp; omega, hB.trans hb3⟩
            case measure => simp [intOf]; omega
          · rw [dif_neg hk1] at hR
            subst hR
            have e3 : ((k : Int) + 1 == s.size) = true := by rw [beq_iff_eq]; omega
            clear hsn hl
            go_wp2_with fail
            go_ret3
            exact ⟨k + 1, by simp, hB⟩
        · rw [if_neg h92] at hR
          have e2 : ((s[k].toNat : Int) == 92) = false := by rw [beq_eq_false_iff_ne]; omega
          clear h34 h92 hst
          have hR := Lib.hid hR
          replace hsn := Lib.hid (hsn s[k])
          have hl := Lib.hid hl
          go_wp2_with (at_builtin; refine snoc_list rowU8 w.heap.size rfl _ _ rfl (.slice A0 acc.length a0) (numsOf acc) (s[k].toNat : Int) [.int .u8 s[k].toNat] rfl rfl rfl hRow (by omega) (by rw [hl.out]; omega) ?_; intro v1 w3 hR1 hb3 hg3)
          go_roundw
          case rel => exact ⟨k + 1, acc ++ [s[k]], by omega, by go_num, by rw [hsn.out]; exact hR1, hR.out, by simp; omega, hB.trans hb3⟩
          case measure => simp [intOf]; omega
    · rw [dif_neg hlt] at hR
      subst hR
      have i1 : ¬ (k : Int) < (s.size : Int) := by omega
      clear hsn hl hst
      go_wp2_with fail
      go_ret3
      exact ⟨s.size, rfl, hB⟩
end Go.Proofs.YtpeenmbonhijmaaDoor.H
