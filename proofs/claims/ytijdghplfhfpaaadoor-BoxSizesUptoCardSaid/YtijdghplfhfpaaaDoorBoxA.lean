/- Names of boxes: the walks of rule.Name and the reference's BoxName. -/
import Derived.Test.YtijdghplfhfpaaaDoorBase
import Derived.Deep.QuietTactic
namespace Go.Proofs.YtijdghplfhfpaaaDoor.H
open Go.RowKit Go.Proofs.YtijdghplfhfpaaaDoorW.PrintWords Go.Proofs.YtijdghplfhfpaaaDoorW.PrintLast Go.Proofs.YtijdghplfhfpaaaDoorW.PrintMore Go.Proofs.YtijdghplfhfpaaaDoor.U
set_option linter.unusedVariables false
set_option linter.unusedSimpArgs false
def goodBx (c : Int) : Bool := decide (33 ≤ c) && decide (c ≤ 126)
def nameFault (s : ByteArray) : Int := if s.size < 1 ∨ 12 < s.size then 1 else if s.data.toList.all fun b => goodBx b.toNat then 0 else 3
theorem nf_one {s : ByteArray} (h : s.size < 1 ∨ 12 < s.size) : nameFault s = 1 := if_pos h
theorem nf_bad {s : ByteArray} (h : ¬ (s.size < 1 ∨ 12 < s.size)) (k : Nat) (hk : k < s.size) (hb : goodBx s[k].toNat = false) : nameFault s = 3 := by
  rw [nameFault, if_neg h, if_neg]
  rw [List.all_eq_true]
  intro h2
  have := h2 s[k] (List.mem_iff_getElem.2 ⟨k, by simpa using hk, by rw [Array.getElem_toList]; rfl⟩)
  rw [hb] at this; cases this
theorem nf_good {s : ByteArray} (h : ¬ (s.size < 1 ∨ 12 < s.size)) (hb : ∀ k (hk : k < s.size), goodBx s[k].toNat = true) : nameFault s = 0 := by
  rw [nameFault, if_neg h, if_pos]
  rw [List.all_eq_true]
  intro x hx
  obtain ⟨i, hi, rfl⟩ := List.mem_iff_getElem.1 hx
  have := hb i (by simpa using hi)
  rw [Array.getElem_toList]; exact this
set_option maxHeartbeats 1000000 in
set_option maxRecDepth 100000 in
theorem ruleName_calls (s : ByteArray) (w : World) (hs : s.size ≤ 9223372036854775806) : Calls Tryd.prog 84 #[.string s] w fun e w' => e = .returned (.int .i64 (nameFault s)) ∧ w = w' := by
  by_cases hsz : s.size < 1 ∨ 12 < s.size
  · rw [nf_one hsz]
    rcases hsz with h | h
    · have h1 : (s.size : Int) < 1 := by omega
      obtain rfl : s = ⟨#[]⟩ := by obtain ⟨⟨l⟩⟩ := s; have : l = [] := List.length_eq_zero_iff.1 (Nat.lt_one_iff.1 h); rw [this]
      clear h h1
      go_enter Tryd.func84, Tryd.ntmps84
      go_wp2_with (fail)
      go_ret
      exact ⟨(by first | rfl | (simp; done) | (simp [*]; done) | (rw [if_pos (by omega)]; first | rfl | (simp; done)) | (rw [if_neg (by omega)]; first | rfl | (simp; done)) | (simp; omega)), rfl⟩
    · have h0 : (1 : Int) ≤ s.size := by omega
      have h1 : (12 : Int) < s.size := by omega
      go_enter Tryd.func84, Tryd.ntmps84
      go_wp2_with (fail)
      go_ret
      exact ⟨(by first | rfl | (simp; done) | (simp [*]; done) | (rw [if_pos (by omega)]; first | rfl | (simp; done)) | (rw [if_neg (by omega)]; first | rfl | (simp; done)) | (simp; omega)), rfl⟩
  · have h0 : (1 : Int) ≤ s.size := by omega
    have h1 : (s.size : Int) ≤ 12 := by omega
    have hbad := fun k hk h => nf_bad (s := s) hsz k hk h
    have hgood := fun h => nf_good (s := s) hsz h
    generalize nameFault s = r at *
    have HR := Lib.hid (And.intro hbad hgood)
    clear hbad hgood hsz
    go_enter Tryd.func84, Tryd.ntmps84
    go_wp2_with (fail)
    go_loopw [14] (fun i wr => ∃ k : Nat, k ≤ s.size ∧ i = .int .i64 k ∧ (∀ j (hj : j < s.size), j < k → goodBx s[j].toNat = true) ∧ w = wr) (fun i _ => s.size - (intOf i).toNat)
    case atStart => exact ⟨0, Nat.zero_le _, rfl, fun j _ hj => absurd hj (Nat.not_lt_zero _), rfl⟩
    case round =>
      obtain ⟨k, hk, rfl, hne, rfl⟩ := hrel
      have hne := Lib.hid hne
      by_cases hlt : k < s.size
      · have b0 := s[k].toNat_lt
        have hbadk := Lib.hid (HR.out.1 k hlt)
        have hstep : goodBx s[k].toNat = true → ∀ j (hj : j < s.size), j < k + 1 → goodBx s[j].toNat = true := fun h j hj hjk => by
          rcases Nat.lt_or_ge j k with h' | h'
          · exact hne.out j hj h'
          · obtain rfl : j = k := by omega
            exact h
        have hstep := Lib.hid hstep
        have i0 : (k : Int) < s.size := by omega
        rcases (by omega : s[k].toNat < 33 ∨ (33 ≤ s[k].toNat ∧ 126 < s[k].toNat) ∨ (33 ≤ s[k].toNat ∧ s[k].toNat ≤ 126)) with h | ⟨h, h2⟩ | ⟨h, h2⟩
        · obtain rfl := hbadk.out (by simp [goodBx]; omega)
          go_wp2_with (fail)
          go_ret
          exact ⟨(by first | rfl | (simp; done) | (simp [*]; done) | (rw [if_pos (by omega)]; first | rfl | (simp; done)) | (rw [if_neg (by omega)]; first | rfl | (simp; done)) | (simp; omega)), rfl⟩
        · obtain rfl := hbadk.out (by simp [goodBx]; omega)
          go_wp2_with (fail)
          go_ret
          exact ⟨(by first | rfl | (simp; done) | (simp [*]; done) | (rw [if_pos (by omega)]; first | rfl | (simp; done)) | (rw [if_neg (by omega)]; first | rfl | (simp; done)) | (simp; omega)), rfl⟩
        · have hstep := hstep.out (by simp [goodBx]; omega)
          go_wp2_with (fail)
          go_roundw
          case rel => exact ⟨k + 1, by omega, by go_num, hstep, by trivial⟩
          case measure => simp [intOf]; omega
      · obtain rfl : k = s.size := by omega
        obtain rfl := HR.out.2 (fun k hk => hne.out k hk hk)
        go_wp2_with (fail)
        go_ret
        exact ⟨(by first | rfl | (simp; done) | (simp [*]; done) | (rw [if_pos (by omega)]; first | rfl | (simp; done)) | (rw [if_neg (by omega)]; first | rfl | (simp; done)) | (simp; omega)), rfl⟩
set_option maxHeartbeats 1000000 in
set_option maxRecDepth 100000 in
theorem boxName_calls (s : ByteArray) (w : World) (hs : s.size ≤ 9223372036854775806) : Calls Tryd.prog 50 #[.string s] w fun e w' => e = .returned (.int .i64 (nameFault s)) ∧ w = w' := by
  by_cases hsz : s.size < 1 ∨ 12 < s.size
  · rw [nf_one hsz]
    rcases hsz with h | h
    · have h1 : (s.size : Int) < 1 := by omega
      obtain rfl : s = ⟨#[]⟩ := by obtain ⟨⟨l⟩⟩ := s; have : l = [] := List.length_eq_zero_iff.1 (Nat.lt_one_iff.1 h); rw [this]
      clear h h1
      go_enter Tryd.func50, Tryd.ntmps50
      go_wp2_with ((go_at_call 52; first | (refine (in_yes _ _ _ _ (by omega) (by omega)).mono ?_; rintro e w' ⟨rfl, rfl⟩) | (refine (in_no _ _ _ _ (by omega)).mono ?_; rintro e w' ⟨rfl, rfl⟩)))
      go_ret
      exact ⟨(by first | rfl | (simp; done) | (simp [*]; done) | (rw [if_pos (by omega)]; first | rfl | (simp; done)) | (rw [if_neg (by omega)]; first | rfl | (simp; done)) | (simp; omega)), rfl⟩
    · have h0 : (1 : Int) ≤ s.size := by omega
      have h1 : (12 : Int) < s.size := by omega
      go_enter Tryd.func50, Tryd.ntmps50
      go_wp2_with ((go_at_call 52; first | (refine (in_yes _ _ _ _ (by omega) (by omega)).mono ?_; rintro e w' ⟨rfl, rfl⟩) | (refine (in_no _ _ _ _ (by omega)).mono ?_; rintro e w' ⟨rfl, rfl⟩)))
      go_ret
      exact ⟨(by first | rfl | (simp; done) | (simp [*]; done) | (rw [if_pos (by omega)]; first | rfl | (simp; done)) | (rw [if_neg (by omega)]; first | rfl | (simp; done)) | (simp; omega)), rfl⟩
  · have h0 : (1 : Int) ≤ s.size := by omega
    have h1 : (s.size : Int) ≤ 12 := by omega
    have hbad := fun k hk h => nf_bad (s := s) hsz k hk h
    have hgood := fun h => nf_good (s := s) hsz h
    generalize nameFault s = r at *
    have HR := Lib.hid (And.intro hbad hgood)
    clear hbad hgood hsz
    go_enter Tryd.func50, Tryd.ntmps50
    go_wp2_with ((go_at_call 52; first | (refine (in_yes _ _ _ _ (by omega) (by omega)).mono ?_; rintro e w' ⟨rfl, rfl⟩) | (refine (in_no _ _ _ _ (by omega)).mono ?_; rintro e w' ⟨rfl, rfl⟩)))
    go_loopw [3] (fun i wr => ∃ k : Nat, k ≤ s.size ∧ i = .int .i64 k ∧ (∀ j (hj : j < s.size), j < k → goodBx s[j].toNat = true) ∧ w = wr) (fun i _ => s.size - (intOf i).toNat)
    case atStart => exact ⟨0, Nat.zero_le _, rfl, fun j _ hj => absurd hj (Nat.not_lt_zero _), rfl⟩
    case round =>
      obtain ⟨k, hk, rfl, hne, rfl⟩ := hrel
      have hne := Lib.hid hne
      by_cases hlt : k < s.size
      · have b0 := s[k].toNat_lt
        have hbadk := Lib.hid (HR.out.1 k hlt)
        have hstep : goodBx s[k].toNat = true → ∀ j (hj : j < s.size), j < k + 1 → goodBx s[j].toNat = true := fun h j hj hjk => by
          rcases Nat.lt_or_ge j k with h' | h'
          · exact hne.out j hj h'
          · obtain rfl : j = k := by omega
            exact h
        have hstep := Lib.hid hstep
        have i0 : (k : Int) < s.size := by omega
        rcases (by omega : s[k].toNat < 33 ∨ (33 ≤ s[k].toNat ∧ 126 < s[k].toNat) ∨ (33 ≤ s[k].toNat ∧ s[k].toNat ≤ 126)) with h | ⟨h, h2⟩ | ⟨h, h2⟩
        · obtain rfl := hbadk.out (by simp [goodBx]; omega)
          go_wp2_with ((go_at_call 52; first | (refine (in_yes _ _ _ _ (by omega) (by omega)).mono ?_; rintro e w' ⟨rfl, rfl⟩) | (refine (in_no _ _ _ _ (by omega)).mono ?_; rintro e w' ⟨rfl, rfl⟩)))
          go_ret
          exact ⟨(by first | rfl | (simp; done) | (simp [*]; done) | (rw [if_pos (by omega)]; first | rfl | (simp; done)) | (rw [if_neg (by omega)]; first | rfl | (simp; done)) | (simp; omega)), rfl⟩
        · obtain rfl := hbadk.out (by simp [goodBx]; omega)
          go_wp2_with ((go_at_call 52; first | (refine (in_yes _ _ _ _ (by omega) (by omega)).mono ?_; rintro e w' ⟨rfl, rfl⟩) | (refine (in_no _ _ _ _ (by omega)).mono ?_; rintro e w' ⟨rfl, rfl⟩)))
          go_ret
          exact ⟨(by first | rfl | (simp; done) | (simp [*]; done) | (rw [if_pos (by omega)]; first | rfl | (simp; done)) | (rw [if_neg (by omega)]; first | rfl | (simp; done)) | (simp; omega)), rfl⟩
        · have hstep := hstep.out (by simp [goodBx]; omega)
          go_wp2_with ((go_at_call 52; first | (refine (in_yes _ _ _ _ (by omega) (by omega)).mono ?_; rintro e w' ⟨rfl, rfl⟩) | (refine (in_no _ _ _ _ (by omega)).mono ?_; rintro e w' ⟨rfl, rfl⟩)))
          go_roundw
          case rel => exact ⟨k + 1, by omega, by go_num, hstep, by trivial⟩
          case measure => simp [intOf]; omega
      · obtain rfl : k = s.size := by omega
        obtain rfl := HR.out.2 (fun k hk => hne.out k hk hk)
        go_wp2_with ((go_at_call 52; first | (refine (in_yes _ _ _ _ (by omega) (by omega)).mono ?_; rintro e w' ⟨rfl, rfl⟩) | (refine (in_no _ _ _ _ (by omega)).mono ?_; rintro e w' ⟨rfl, rfl⟩)))
        go_ret
        exact ⟨(by first | rfl | (simp; done) | (simp [*]; done) | (rw [if_pos (by omega)]; first | rfl | (simp; done)) | (rw [if_neg (by omega)]; first | rfl | (simp; done)) | (simp; omega)), rfl⟩
end Go.Proofs.YtijdghplfhfpaaaDoor.H
