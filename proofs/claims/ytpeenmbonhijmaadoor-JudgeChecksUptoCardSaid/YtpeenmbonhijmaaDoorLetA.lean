/- Letters: names of fields, blanks, line ends, what is trimmed: the walks. -/
import Derived.Test.YtpeenmbonhijmaaDoorCur
import Derived.Test.YtpeenmbonhijmaaDoorBase
import Derived.Test.YtpeenmbonhijmaaDoorKinds
import Derived.Test.YtpeenmbonhijmaaDoorShelf
import Derived.BigQuiet
namespace Go.Proofs.YtpeenmbonhijmaaDoor.H
open Go.RowKit Go.Proofs.YtpeenmbonhijmaaDoorW.PrintWords Go.Proofs.YtpeenmbonhijmaaDoorW.PrintLast Go.Proofs.YtpeenmbonhijmaaDoorW.PrintMore Go.Proofs.YtpeenmbonhijmaaDoor.U
set_option linter.unusedVariables false
set_option linter.unusedSimpArgs false
def goodN (b : Nat) : Bool := decide (33 ≤ b) && decide (b ≤ 126) && b != 58
def nameOk (s : ByteArray) : Bool := !s.data.toList.isEmpty && s.data.toList.all fun b => goodN b.toNat
theorem nameOk_bad {s : ByteArray} (k : Nat) (hk : k < s.size) (h : goodN s[k].toNat = false) : nameOk s = false := by
  rw [nameOk, Bool.and_eq_false_iff]
  right
  rw [List.all_eq_false]
  exact ⟨s[k], List.mem_iff_getElem.2 ⟨k, by simpa using hk, by rw [Array.getElem_toList]; rfl⟩, by rw [h]; simp⟩
theorem nameOk_good {s : ByteArray} (h0 : 0 < s.size) (h : ∀ k (hk : k < s.size), goodN s[k].toNat = true) : nameOk s = true := by
  rw [nameOk, Bool.and_eq_true, List.all_eq_true]
  refine ⟨?_, fun b hb => ?_⟩
  · have : s.data.toList.length = s.size := by simp
    cases hd : s.data.toList with
    | nil => rw [hd] at this; simp at this; omega
    | cons => rfl
  · obtain ⟨i, hi, rfl⟩ := List.mem_iff_getElem.1 hb
    rw [Array.getElem_toList]
    exact h i (by simpa using hi)
theorem nameOk_empty {s : ByteArray} (h : s.size = 0) : nameOk s = false := by
  have : s.data.toList = [] := List.length_eq_zero_iff.1 (by simpa using h)
  simp [nameOk, this]
set_option maxHeartbeats 1000000 in
set_option maxRecDepth 100000 in
theorem name_calls (s : ByteArray) (w : World) (hs : s.size ≤ 9223372036854775806) : Calls Tryd.prog 66 #[.string s] w fun e w' => e = .returned (.bool (nameOk s)) ∧ w = w' := by
  have hbad := fun k hk h => nameOk_bad (s := s) k hk h
  have hgood := fun h0 h => nameOk_good (s := s) h0 h
  have hemp := fun h => nameOk_empty (s := s) h
  generalize nameOk s = r at *
  have HR := Lib.hid (And.intro hbad (And.intro hgood hemp))
  clear hbad hgood hemp
  go_enter Tryd.func66, Tryd.ntmps66
  go_wp2
  go_loopw [2, 6] (fun _ i wr => ∃ k : Nat, k ≤ s.size ∧ i = .int .i64 k ∧ (∀ j (hj : j < s.size), j < k → goodN s[j].toNat = true) ∧ w = wr) (fun _ i _ => s.size - (intOf i).toNat)
  case atStart => exact ⟨0, Nat.zero_le _, rfl, fun j _ hj => absurd hj (Nat.not_lt_zero _), rfl⟩
  case round =>
    obtain ⟨k, hk, rfl, hne, rfl⟩ := hrel
    have hne := Lib.hid hne
    by_cases hlt : k < s.size
    · have b0 := s[k].toNat_lt
      have hstep : goodN s[k].toNat = true → ∀ j (hj : j < s.size), j < k + 1 → goodN s[j].toNat = true := fun h j hj hjk => by
        rcases Nat.lt_or_ge j k with h' | h'
        · exact hne.out j hj h'
        · obtain rfl : j = k := by omega
          exact h
      have hbadk := HR.out.1 k hlt
      have hstep := Lib.hid hstep
      have hbadk := Lib.hid hbadk
      rcases (by omega : (s[k].toNat < 33) ∨ (33 ≤ s[k].toNat ∧ 126 < s[k].toNat) ∨ (33 ≤ s[k].toNat ∧ s[k].toNat ≤ 126 ∧ s[k].toNat = 58) ∨ (33 ≤ s[k].toNat ∧ s[k].toNat ≤ 126 ∧ s[k].toNat ≠ 58)) with h | ⟨h1, h⟩ | ⟨h1, h2, h⟩ | ⟨h1, h2, h⟩
      · obtain rfl := hbadk.out (by simp [goodN]; omega)
        go_wp2
        go_ret
        exact ⟨(by first | rfl | (simp; done) | (simp [*]; done) | (rw [if_pos (by omega)]; first | rfl | (simp; done)) | (rw [if_neg (by omega)]; first | rfl | (simp; done)) | (simp; omega)), rfl⟩
      · obtain rfl := hbadk.out (by simp [goodN]; omega)
        go_wp2
        go_ret
        exact ⟨(by first | rfl | (simp; done) | (simp [*]; done) | (rw [if_pos (by omega)]; first | rfl | (simp; done)) | (rw [if_neg (by omega)]; first | rfl | (simp; done)) | (simp; omega)), rfl⟩
      · obtain rfl := hbadk.out (by simp [goodN]; omega)
        go_wp2
        go_ret
        exact ⟨(by first | rfl | (simp; done) | (simp [*]; done) | (rw [if_pos (by omega)]; first | rfl | (simp; done)) | (rw [if_neg (by omega)]; first | rfl | (simp; done)) | (simp; omega)), rfl⟩
      · have hstep := hstep.out (by simp [goodN]; omega)
        have h58 : ((s[k].toNat : Int) == 58) = false := by rw [beq_eq_false_iff_ne]; omega
        go_wp2
        go_roundw
        case rel => exact ⟨k + 1, by omega, by go_num, hstep, by trivial⟩
        case measure => simp [intOf]; omega
    · obtain rfl : k = s.size := by omega
      by_cases h0 : s.size = 0
      · obtain rfl := HR.out.2.2 h0
        go_wp2
        go_ret
        exact ⟨(by first | rfl | (simp; done) | (simp [*]; done) | (rw [if_pos (by omega)]; first | rfl | (simp; done)) | (rw [if_neg (by omega)]; first | rfl | (simp; done)) | (simp; omega)), rfl⟩
      · obtain rfl := HR.out.2.1 (by omega) (fun k hk => hne.out k hk hk)
        have h1 : (0 : Int) < s.size := by omega
        go_wp2
        go_ret
        exact ⟨(by first | rfl | (simp; done) | (simp [*]; done) | (rw [if_pos (by omega)]; first | rfl | (simp; done)) | (rw [if_neg (by omega)]; first | rfl | (simp; done)) | (simp; omega)), rfl⟩
set_option maxHeartbeats 1000000 in
set_option maxRecDepth 100000 in
theorem nameMay_calls (s : ByteArray) (w : World) (hs : s.size ≤ 9223372036854775806) : Calls Tryd.prog 70 #[.string s] w fun e w' => e = .returned (.bool (nameOk s)) ∧ w = w' := by
  have hbad := fun k hk h => nameOk_bad (s := s) k hk h
  have hgood := fun h0 h => nameOk_good (s := s) h0 h
  have hemp := fun h => nameOk_empty (s := s) h
  generalize nameOk s = r at *
  have HR := Lib.hid (And.intro hbad (And.intro hgood hemp))
  clear hbad hgood hemp
  by_cases h0 : s.size = 0
  · obtain rfl := HR.out.2.2 h0
    go_enter Tryd.func70, Tryd.ntmps70
    go_wp2
    go_ret
    exact ⟨(by first | rfl | (simp; done) | (simp [*]; done) | (rw [if_pos (by omega)]; first | rfl | (simp; done)) | (rw [if_neg (by omega)]; first | rfl | (simp; done)) | (simp; omega)), rfl⟩
  · have h0b : ((s.size : Int) == 0) = false := by rw [beq_eq_false_iff_ne]; omega
    go_enter Tryd.func70, Tryd.ntmps70
    go_wp2
    go_loopw [2, 3] (fun _ i wr => ∃ k : Nat, k ≤ s.size ∧ i = .int .i64 k ∧ (∀ j (hj : j < s.size), j < k → goodN s[j].toNat = true) ∧ w = wr) (fun _ i _ => s.size - (intOf i).toNat)
    case atStart => exact ⟨0, Nat.zero_le _, rfl, fun j _ hj => absurd hj (Nat.not_lt_zero _), rfl⟩
    case round =>
      obtain ⟨k, hk, rfl, hne, rfl⟩ := hrel
      have hne := Lib.hid hne
      by_cases hlt : k < s.size
      · have b0 := s[k].toNat_lt
        have hstep : goodN s[k].toNat = true → ∀ j (hj : j < s.size), j < k + 1 → goodN s[j].toNat = true := fun h j hj hjk => by
          rcases Nat.lt_or_ge j k with h' | h'
          · exact hne.out j hj h'
          · obtain rfl : j = k := by omega
            exact h
        have hbadk := HR.out.1 k hlt
        have hstep := Lib.hid hstep
        have hbadk := Lib.hid hbadk
        rcases (by omega : (s[k].toNat < 33) ∨ (33 ≤ s[k].toNat ∧ 126 < s[k].toNat) ∨ (33 ≤ s[k].toNat ∧ s[k].toNat ≤ 126 ∧ s[k].toNat = 58) ∨ (33 ≤ s[k].toNat ∧ s[k].toNat ≤ 126 ∧ s[k].toNat ≠ 58)) with h | ⟨h1, h⟩ | ⟨h1, h2, h⟩ | ⟨h1, h2, h⟩
        · obtain rfl := hbadk.out (by simp [goodN]; omega)
          go_wp2_with ((go_at_call 53; first | (refine (in_yes _ _ _ _ (by omega) (by omega)).mono ?_; rintro e w' ⟨rfl, rfl⟩) | (refine (in_no _ _ _ _ (by omega)).mono ?_; rintro e w' ⟨rfl, rfl⟩)))
          go_ret
          exact ⟨(by first | rfl | (simp; done) | (simp [*]; done) | (rw [if_pos (by omega)]; first | rfl | (simp; done)) | (rw [if_neg (by omega)]; first | rfl | (simp; done)) | (simp; omega)), rfl⟩
        · obtain rfl := hbadk.out (by simp [goodN]; omega)
          go_wp2_with ((go_at_call 53; first | (refine (in_yes _ _ _ _ (by omega) (by omega)).mono ?_; rintro e w' ⟨rfl, rfl⟩) | (refine (in_no _ _ _ _ (by omega)).mono ?_; rintro e w' ⟨rfl, rfl⟩)))
          go_ret
          exact ⟨(by first | rfl | (simp; done) | (simp [*]; done) | (rw [if_pos (by omega)]; first | rfl | (simp; done)) | (rw [if_neg (by omega)]; first | rfl | (simp; done)) | (simp; omega)), rfl⟩
        · obtain rfl := hbadk.out (by simp [goodN]; omega)
          go_wp2_with ((go_at_call 53; first | (refine (in_yes _ _ _ _ (by omega) (by omega)).mono ?_; rintro e w' ⟨rfl, rfl⟩) | (refine (in_no _ _ _ _ (by omega)).mono ?_; rintro e w' ⟨rfl, rfl⟩)))
          go_ret
          exact ⟨(by first | rfl | (simp; done) | (simp [*]; done) | (rw [if_pos (by omega)]; first | rfl | (simp; done)) | (rw [if_neg (by omega)]; first | rfl | (simp; done)) | (simp; omega)), rfl⟩
        · have hstep := hstep.out (by simp [goodN]; omega)
          have h58 : ((s[k].toNat : Int) == 58) = false := by rw [beq_eq_false_iff_ne]; omega
          go_wp2_with ((go_at_call 53; first | (refine (in_yes _ _ _ _ (by omega) (by omega)).mono ?_; rintro e w' ⟨rfl, rfl⟩) | (refine (in_no _ _ _ _ (by omega)).mono ?_; rintro e w' ⟨rfl, rfl⟩)))
          go_roundw
          case rel => exact ⟨k + 1, by omega, by go_num, hstep, by trivial⟩
          case measure => simp [intOf]; omega
      · obtain rfl : k = s.size := by omega
        obtain rfl := HR.out.2.1 (by omega) (fun k hk => hne.out k hk hk)
        go_wp2
        go_ret
        exact ⟨(by first | rfl | (simp; done) | (simp [*]; done) | (rw [if_pos (by omega)]; first | rfl | (simp; done)) | (rw [if_neg (by omega)]; first | rfl | (simp; done)) | (simp; omega)), rfl⟩
end Go.Proofs.YtpeenmbonhijmaaDoor.H
