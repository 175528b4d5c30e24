/- Scripts cut into tokens: what is read, in plain words. No program in sight (but for the kinds of bytes). -/
import Derived.Test.YtpeenmbonhijmaaDoorTokA
import Derived.Test.YtpeenmbonhijmaaDoorKinds
import Derived.Lib.IndexBytes
namespace Go.Proofs.YtpeenmbonhijmaaDoor.H
set_option linter.unusedVariables false
set_option linter.unusedSimpArgs false
def wsB (c : Int) : Bool := decide (c = 32) || decide (c = 9) || decide (c = 13) || decide (c = 10)
def lineB (c : Int) : Bool := decide (c ≠ 10)
/-- Where a comment's end stands, from a place on. -/
def starAt (s : ByteArray) (e : Nat) : Option Nat := if e + 1 < s.size then if nx s e = 42 ∧ nx s (e + 1) = 47 then some e else starAt s (e + 1) else none
termination_by s.size - e
theorem starAt_ge (s : ByteArray) : ∀ n e q, s.size - e ≤ n → starAt s e = some q → e ≤ q ∧ q + 1 < s.size := by
  intro n
  induction n with
  | zero => intro e q h1 h2; rw [starAt, if_neg (by omega)] at h2; cases h2
  | succ n ih =>
    intro e q h1 h2
    rw [starAt] at h2
    split at h2
    · split at h2
      · cases h2; omega
      · have := ih _ _ (by omega) h2; omega
    · cases h2
/-- The place behind what says nothing; false: a comment does not end (and where it begins). -/
def silent (s : ByteArray) (i : Nat) : Nat × Bool :=
  if nx s (spanEnd wsB s i) = 35 then
    if i < spanEnd lineB s (spanEnd wsB s i) ∧ spanEnd lineB s (spanEnd wsB s i) ≤ s.size then silent s (spanEnd lineB s (spanEnd wsB s i)) else (spanEnd wsB s i, true)
  else if nx s (spanEnd wsB s i) = 47 ∧ nx s (spanEnd wsB s i + 1) = 42 then
    match starAt s (spanEnd wsB s i + 2) with
    | some e => if i < e + 2 ∧ e + 2 ≤ s.size then silent s (e + 2) else (spanEnd wsB s i, true)
    | none => (spanEnd wsB s i, false)
  else (spanEnd wsB s i, true)
termination_by s.size - i
decreasing_by all_goals omega
theorem silent_hash {s : ByteArray} {i : Nat} (hi : i ≤ s.size) (h : nx s (spanEnd wsB s i) = 35) : silent s i = silent s (spanEnd lineB s (spanEnd wsB s i)) ∧ i < spanEnd lineB s (spanEnd wsB s i) ∧ spanEnd lineB s (spanEnd wsB s i) ≤ s.size := by
  have h1 := span_ge wsB s i hi
  have h2 := span_le wsB s i hi
  have hlt := nx_lt (s := s) (i := spanEnd wsB s i) (by rw [h]; decide)
  have h3 : lineB s[spanEnd wsB s i].toNat = true := by rw [nx_in hlt] at h; simp [lineB]; omega
  have h4 : spanEnd wsB s i < spanEnd lineB s (spanEnd wsB s i) := by rw [spanEnd_yes lineB hlt h3]; have := span_ge lineB s (spanEnd wsB s i + 1) (by omega); omega
  have h5 := span_le lineB s (spanEnd wsB s i) h2
  have h6 : i < spanEnd lineB s (spanEnd wsB s i) := by omega
  refine ⟨?_, h6, h5⟩
  conv => lhs; rw [silent, if_pos h, if_pos ⟨h6, h5⟩]
theorem silent_some {s : ByteArray} {i e : Nat} (hi : i ≤ s.size) (h : nx s (spanEnd wsB s i) = 47) (h' : nx s (spanEnd wsB s i + 1) = 42) (he : starAt s (spanEnd wsB s i + 2) = some e) : silent s i = silent s (e + 2) ∧ i < e + 2 ∧ e + 2 ≤ s.size := by
  have h1 := span_ge wsB s i hi
  have h2 := starAt_ge s _ _ _ (Nat.le_refl _) he
  have h6 : i < e + 2 := by omega
  have h5 : e + 2 ≤ s.size := by omega
  refine ⟨?_, h6, h5⟩
  conv => lhs; rw [silent, if_neg (by rw [h]; decide), if_pos ⟨h, h'⟩, he]; simp only; rw [if_pos ⟨h6, h5⟩]
theorem silent_none {s : ByteArray} {i : Nat} (h : nx s (spanEnd wsB s i) = 47) (h' : nx s (spanEnd wsB s i + 1) = 42) (he : starAt s (spanEnd wsB s i + 2) = none) : silent s i = (spanEnd wsB s i, false) := by
  rw [silent, if_neg (by rw [h]; decide), if_pos ⟨h, h'⟩, he]
theorem silent_end {s : ByteArray} {i : Nat} (h : nx s (spanEnd wsB s i) ≠ 35) (h' : ¬ (nx s (spanEnd wsB s i) = 47 ∧ nx s (spanEnd wsB s i + 1) = 42)) : silent s i = (spanEnd wsB s i, true) := by
  rw [silent, if_neg h, if_neg h']
theorem silent_blank {s : ByteArray} {i : Nat} (h : i < s.size) (hb : wsB s[i].toNat = true) : silent s i = silent s (i + 1) := by
  have hge := span_ge wsB s (i + 1) (by omega)
  have hsp := spanEnd_yes wsB h hb
  rw [silent.eq_1 s i, silent.eq_1 s (i + 1), hsp]
  by_cases h1 : nx s (spanEnd wsB s (i + 1)) = 35
  · have hh := silent_hash (s := s) (i := i) (by omega) (by rw [hsp]; exact h1)
    have hh2 := silent_hash (s := s) (i := i + 1) (by omega) h1
    rw [hsp] at hh
    rw [if_pos h1, if_pos h1, if_pos hh.2, if_pos hh2.2]
  · rw [if_neg h1, if_neg h1]
    by_cases h2 : nx s (spanEnd wsB s (i + 1)) = 47 ∧ nx s (spanEnd wsB s (i + 1) + 1) = 42
    · rw [if_pos h2, if_pos h2]
      cases he : starAt s (spanEnd wsB s (i + 1) + 2) with
      | none => rfl
      | some e =>
        have h3 := starAt_ge s _ _ _ (Nat.le_refl _) he
        simp only
        rw [if_pos ⟨by omega, by omega⟩, if_pos ⟨by omega, by omega⟩]
    · rw [if_neg h2, if_neg h2]
theorem silent_ge (s : ByteArray) : ∀ n i, s.size - i ≤ n → i ≤ s.size → i ≤ (silent s i).1 ∧ (silent s i).1 ≤ s.size := by
  intro n
  induction n with
  | zero =>
    intro i h1 h2
    have hne : ¬ i < s.size := by omega
    rw [silent_end (by rw [spanEnd_end _ hne, nx_out hne]; decide) (by rw [spanEnd_end _ hne, nx_out hne]; simp), spanEnd_end _ hne]
    simp only; omega
  | succ n ih =>
    intro i h1 h2
    have g1 := span_ge wsB s i h2
    have g2 := span_le wsB s i h2
    by_cases c1 : nx s (spanEnd wsB s i) = 35
    · obtain ⟨e, h3, h4⟩ := silent_hash h2 c1
      rw [e]
      have := ih _ (by omega) h4
      omega
    · by_cases c2 : nx s (spanEnd wsB s i) = 47 ∧ nx s (spanEnd wsB s i + 1) = 42
      · cases he : starAt s (spanEnd wsB s i + 2) with
        | none => rw [silent_none c2.1 c2.2 he]; exact ⟨g1, g2⟩
        | some e =>
          obtain ⟨e', h3, h4⟩ := silent_some h2 c2.1 c2.2 he
          rw [e']
          have := ih _ (by omega) h4
          omega
      · rw [silent_end c1 c2]; exact ⟨g1, g2⟩
/-- A number's value. -/
def numV (l : List UInt8) : Nat := l.foldl (fun n b => 10 * n + (b.toNat - 48)) 0
def shiftAt (s : ByteArray) (e : Nat) : Nat × Nat := if nx s e = 75 ∨ nx s e = 107 then (10, e + 1) else if nx s e = 77 ∨ nx s e = 109 then (20, e + 1) else (0, e)
/-- A number: what is wrong, its value, where it ends. -/
def numAt (s : ByteArray) (i : Nat) : Int × Int × Nat :=
  if letterB (nx s (shiftAt s (spanEnd digitB s i)).2) = true ∨ digitB (nx s (shiftAt s (spanEnd digitB s i)).2) = true then (3, 0, (shiftAt s (spanEnd digitB s i)).2)
  else if 2147483647 < numV (s.extract i (spanEnd digitB s i)).data.toList * 2 ^ (shiftAt s (spanEnd digitB s i)).1 then (6, 0, (shiftAt s (spanEnd digitB s i)).2)
  else (0, ((numV (s.extract i (spanEnd digitB s i)).data.toList * 2 ^ (shiftAt s (spanEnd digitB s i)).1 : Nat) : Int), (shiftAt s (spanEnd digitB s i)).2)
/-- A text in quotes from a place in it on: what is in it, and where it ends. -/
def strAt (s : ByteArray) (k : Nat) (acc : List UInt8) : Option (List UInt8 × Nat) :=
  if h : k < s.size then
    if s[k].toNat = 34 then some (acc, k + 1)
    else if s[k].toNat = 92 then (if h2 : k + 1 < s.size then strAt s (k + 2) (acc ++ [s[k + 1]]) else none)
    else strAt s (k + 1) (acc ++ [s[k]])
  else none
termination_by s.size - k
theorem strAt_gt (s : ByteArray) : ∀ n k acc r e, s.size - k ≤ n → strAt s k acc = some (r, e) → k < e ∧ e ≤ s.size := by
  intro n
  induction n with
  | zero => intro k acc r e h1 h2; rw [strAt, dif_neg (by omega)] at h2; cases h2
  | succ n ih =>
    intro k acc r e h1 h2
    rw [strAt] at h2
    split at h2
    · split at h2
      · cases h2; omega
      · split at h2
        · split at h2
          · have := ih _ _ _ _ (by omega) h2; omega
          · cases h2
        · have := ih _ _ _ _ (by omega) h2; omega
    · cases h2
def noTok : AToken := ⟨0, ⟨#[]⟩, 0⟩
/-- The token at a place: what is wrong, the token, where it ends. -/
def tokAt (s : ByteArray) (i : Nat) : Int × AToken × Nat :=
  if letterB (nx s i) = true then (0, ⟨1, s.extract i (spanEnd wordB s i), 0⟩, spanEnd wordB s i)
  else if nx s i = 58 then
    if letterB (nx s (i + 1)) = true then (0, ⟨2, s.extract (i + 1) (spanEnd wordB s (i + 1)), 0⟩, spanEnd wordB s (i + 1)) else (3, noTok, i)
  else if digitB (nx s i) = true then (if (numAt s i).1 = 0 then (0, ⟨3, ⟨#[]⟩, (numAt s i).2.1⟩, (numAt s i).2.2) else ((numAt s i).1, noTok, i))
  else if nx s i = 34 then
    match strAt s (i + 1) [] with
    | some (r, e) => (0, ⟨4, ⟨r.toArray⟩, 0⟩, e)
    | none => (4, noTok, i)
  else if markB (nx s i) = true then (0, ⟨5, s.extract i (i + 1), 0⟩, i + 1)
  else (3, noTok, i)
/-- A script's tokens from a place on, behind others: what is wrong, where, the tokens. -/
def cutGo (s : ByteArray) (i : Nat) (l : List AToken) : Int × Nat × List AToken :=
  if (silent s i).2 = false then (4, (silent s i).1, [])
  else if (silent s i).1 = s.size then (0, 0, l)
  else if l.length = 400 then (5, (silent s i).1, [])
  else if (tokAt s (silent s i).1).1 = 0 then
    if i < (tokAt s (silent s i).1).2.2 ∧ (tokAt s (silent s i).1).2.2 ≤ s.size then cutGo s (tokAt s (silent s i).1).2.2 (l ++ [(tokAt s (silent s i).1).2.1]) else (0, 0, [])
  else ((tokAt s (silent s i).1).1, (silent s i).1, [])
termination_by s.size - i
decreasing_by all_goals omega
def cutV (s : ByteArray) : Int × Nat × List AToken := if 2000 < s.size then (1, 0, []) else cutGo s 0 []
end Go.Proofs.YtpeenmbonhijmaaDoor.H
