/- Runs of bytes in a text: where they end. No program in sight. -/
import Derived.Lib.SplitLaws
namespace Go.Proofs.YtijdghplfhfpaaaDoor.H
set_option linter.unusedVariables false
/-- The place behind a run of bytes that are so. -/
def spanEnd (p : Int → Bool) (s : ByteArray) (i : Nat) : Nat := if h : i < s.size then if p s[i].toNat then spanEnd p s (i + 1) else i else i
termination_by s.size - i
theorem spanEnd_end (p : Int → Bool) {s : ByteArray} {i : Nat} (h : ¬ i < s.size) : spanEnd p s i = i := by rw [spanEnd, dif_neg h]
theorem spanEnd_no (p : Int → Bool) {s : ByteArray} {i : Nat} (h : i < s.size) (h2 : p s[i].toNat = false) : spanEnd p s i = i := by rw [spanEnd, dif_pos h, h2]; rfl
theorem spanEnd_yes (p : Int → Bool) {s : ByteArray} {i : Nat} (h : i < s.size) (h2 : p s[i].toNat = true) : spanEnd p s i = spanEnd p s (i + 1) := by rw [spanEnd, dif_pos h, h2]; rfl
theorem spanEnd_le (p : Int → Bool) (s : ByteArray) : ∀ n i, s.size - i = n → i ≤ s.size → i ≤ spanEnd p s i ∧ spanEnd p s i ≤ s.size := by
  intro n
  induction n with
  | zero => intro i h1 h2; rw [spanEnd_end p (by omega)]; omega
  | succ n ih =>
    intro i h1 h2
    have hlt : i < s.size := by omega
    cases h : p s[i].toNat with
    | false => rw [spanEnd_no p hlt h]; omega
    | true => rw [spanEnd_yes p hlt h]; have := ih (i + 1) (by omega) (by omega); omega
theorem span_ge (p : Int → Bool) (s : ByteArray) (i : Nat) (h : i ≤ s.size) : i ≤ spanEnd p s i := (spanEnd_le p s _ i rfl h).1
theorem span_le (p : Int → Bool) (s : ByteArray) (i : Nat) (h : i ≤ s.size) : spanEnd p s i ≤ s.size := (spanEnd_le p s _ i rfl h).2
/-- The byte behind a run is not so. -/
theorem span_stop (p : Int → Bool) (s : ByteArray) : ∀ n i, s.size - i = n → (h : spanEnd p s i < s.size) → p s[spanEnd p s i].toNat = false := by
  intro n
  induction n with
  | zero => intro i h1 h2; rw [spanEnd_end p (by omega)] at h2; omega
  | succ n ih =>
    intro i h1 h2
    have hlt : i < s.size := by omega
    cases h : p s[i].toNat with
    | false => simp only [spanEnd_no p hlt h]; exact h
    | true => simp only [spanEnd_yes p hlt h] at h2 ⊢; exact ih (i + 1) (by omega) h2
/-- The bytes of a run are so. -/
theorem span_in (p : Int → Bool) (s : ByteArray) : ∀ n i, s.size - i = n → ∀ k, i ≤ k → k < spanEnd p s i → ∃ h : k < s.size, p s[k].toNat = true := by
  intro n
  induction n with
  | zero => intro i h1 k h2 h3; rw [spanEnd_end p (by omega)] at h3; omega
  | succ n ih =>
    intro i h1 k h2 h3
    have hlt : i < s.size := by omega
    cases h : p s[i].toNat with
    | false => rw [spanEnd_no p hlt h] at h3; omega
    | true =>
      rw [spanEnd_yes p hlt h] at h3
      rcases Nat.lt_or_ge i k with h4 | h4
      · exact ih (i + 1) (by omega) k (by omega) h3
      · obtain rfl : k = i := by omega
        exact ⟨hlt, h⟩
theorem span_same (p : Int → Bool) (s : ByteArray) (i : Nat) (h : i ≤ s.size) : spanEnd p s (spanEnd p s i) = spanEnd p s i := by
  by_cases h2 : spanEnd p s i < s.size
  · exact spanEnd_no p h2 (span_stop p s _ i rfl h2)
  · exact spanEnd_end p h2
/-- The byte at a place; 0: there is none. -/
def nx (s : ByteArray) (i : Nat) : Int := if h : i < s.size then s[i].toNat else 0
theorem nx_in {s : ByteArray} {i : Nat} (h : i < s.size) : nx s i = s[i].toNat := dif_pos h
theorem nx_out {s : ByteArray} {i : Nat} (h : ¬ i < s.size) : nx s i = 0 := dif_neg h
theorem nx_lt {s : ByteArray} {i : Nat} (h : nx s i ≠ 0) : i < s.size := by
  rcases Nat.lt_or_ge i s.size with h1 | h1
  · exact h1
  · exact absurd (nx_out (by omega)) h
theorem ext_one {s : ByteArray} {k : Nat} (h : k < s.size) : s.extract k (k + 1) = ⟨#[s[k]]⟩ := by
  apply ByteArray.ext
  rw [ByteArray.data_extract]
  apply Array.ext
  · simp; have : s.data.size = s.size := rfl; omega
  · intro i h1 h2
    simp at h2
    obtain rfl : i = 0 := by omega
    simp; rfl
theorem ext_size {s : ByteArray} {k e : Nat} (h : e ≤ s.size) : (s.extract k e).size = e - k := by simp; omega
theorem ext_head {s : ByteArray} {k e : Nat} {c : UInt8} (h : e ≤ s.size) (hk : k < e) (he : s.extract k e = ⟨#[c]⟩) : e = k + 1 ∧ s[k] = c := by
  have h1 := congrArg ByteArray.size he
  rw [ext_size h] at h1
  have h2 : e = k + 1 := by have : (⟨#[c]⟩ : ByteArray).size = 1 := rfl; omega
  subst h2
  rw [ext_one (by omega)] at he
  refine ⟨rfl, ?_⟩
  have := congrArg (fun x : ByteArray => x.data.toList) he
  simpa using this
end Go.Proofs.YtijdghplfhfpaaaDoor.H
