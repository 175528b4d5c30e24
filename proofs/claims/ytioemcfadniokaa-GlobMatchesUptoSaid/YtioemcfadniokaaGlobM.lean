/- Plain law of patterns: a relation on pieces; the rounds of the greedy search; the table's rows. -/
import Derived.Test.YtioemcfadniokaaKinds
namespace Go.Proofs.Ytioemcfadniokaa.H
set_option linter.unusedVariables false
set_option linter.unusedSimpArgs false
structure Pc where
  c : Int
  one : Bool
  many : Bool
namespace Pc
def ok (p : Pc) (a : List Int) : Prop := if p.many then True else ∃ x, a = [x] ∧ (p.one = true ∨ p.c = x)
def hit (p : Pc) (x : Int) : Prop := p.one = true ∨ p.c = x
end Pc
def M : List Pc → List Int → Prop
  | [], s => s = []
  | p :: ps, s => ∃ a b, s = a ++ b ∧ p.ok a ∧ M ps b
theorem M_app {l1 l2 : List Pc} : ∀ {s : List Int}, M (l1 ++ l2) s ↔ ∃ a b, s = a ++ b ∧ M l1 a ∧ M l2 b := by
  induction l1 with
  | nil => intro s; constructor
           · intro h; exact ⟨[], s, rfl, rfl, h⟩
           · rintro ⟨a, b, rfl, h1, h2⟩; obtain rfl : a = [] := h1; exact h2
  | cons p l1 ih =>
    intro s
    constructor
    · rintro ⟨a, b, rfl, h1, h2⟩
      obtain ⟨c, d, rfl, h3, h4⟩ := ih.1 h2
      exact ⟨a ++ c, d, by rw [List.append_assoc], ⟨a, c, rfl, h1, h3⟩, h4⟩
    · rintro ⟨a, b, rfl, ⟨c, d, rfl, h1, h2⟩, h3⟩
      exact ⟨c, d ++ b, by rw [List.append_assoc], h1, ih.2 ⟨d, b, rfl, h2, h3⟩⟩
theorem M_many {p : Pc} (hp : p.many = true) {ps : List Pc} {s : List Int} : M (p :: ps) s ↔ ∃ j, j ≤ s.length ∧ M ps (s.drop j) := by
  constructor
  · rintro ⟨a, b, rfl, h1, h2⟩; exact ⟨a.length, by simp, by simpa using h2⟩
  · rintro ⟨j, hj, h⟩; exact ⟨s.take j, s.drop j, (List.take_append_drop j s).symm, by simp [Pc.ok, hp], h⟩
theorem M_one {p : Pc} (hp : p.many = false) {ps : List Pc} {x : Int} {s : List Int} : M (p :: ps) (x :: s) ↔ p.hit x ∧ M ps s := by
  constructor
  · rintro ⟨a, b, h0, h1, h2⟩
    simp only [Pc.ok, hp] at h1
    obtain ⟨y, rfl, h3⟩ := h1
    simp at h0
    obtain ⟨rfl, rfl⟩ := h0
    exact ⟨h3, h2⟩
  · rintro ⟨h1, h2⟩; exact ⟨[x], s, rfl, by simp only [Pc.ok, hp]; exact ⟨x, rfl, h1⟩, h2⟩
theorem M_one_nil {p : Pc} (hp : p.many = false) {ps : List Pc} : ¬ M (p :: ps) [] := by
  rintro ⟨a, b, h0, h1, h2⟩
  simp only [Pc.ok, hp] at h1
  obtain ⟨y, rfl, h3⟩ := h1
  simp at h0
theorem M_nil_iff {s : List Int} : M [] s ↔ s = [] := Iff.rfl
theorem M_all_many {l : List Pc} (h : ∀ p ∈ l, p.many = true) : M l [] := by
  induction l with
  | nil => rfl
  | cons p l ih => exact (M_many (h p (by simp))).2 ⟨0, by simp, by simpa using ih (fun q hq => h q (by simp [hq]))⟩
/-- Pieces of which none is a star take one byte each. -/
theorem M_len {l : List Pc} (h : ∀ p ∈ l, p.many = false) : ∀ {s : List Int}, M l s → s.length = l.length := by
  induction l with
  | nil => intro s hs; rw [show s = [] from hs]; rfl
  | cons p l ih =>
    rintro s ⟨a, b, rfl, h1, h2⟩
    simp only [Pc.ok, h p (by simp)] at h1
    obtain ⟨y, rfl, _⟩ := h1
    have := ih (fun q hq => h q (by simp [hq])) h2
    simp [this]
/-- A state of the greedy search: what has been decided. -/
def Greedy (l : List Pc) (s : List Int) (i k : Nat) (star : Option Nat) (from_ : Nat) : Prop :=
  k ≤ l.length ∧ i ≤ s.length ∧ match star with
  | none => (M l s ↔ M (l.drop k) (s.drop i)) ∧ from_ = 0
  | some st => st < k ∧ from_ ≤ i ∧ i - from_ = k - (st + 1) ∧ (∀ j (hj : j < l.length), st < j → j < k → l[j].many = false) ∧
      (M l s ↔ M (l.drop k) (s.drop i) ∨ ∃ j, from_ < j ∧ j ≤ s.length ∧ M (l.drop (st + 1)) (s.drop j))
theorem greedy_start (l : List Pc) (s : List Int) : Greedy l s 0 0 none 0 := ⟨Nat.zero_le _, Nat.zero_le _, by simp⟩
theorem drop_mid {α} {l : List α} {a k : Nat} (hak : a ≤ k) (hk : k < l.length) : l.drop a = (l.drop a).take (k - a) ++ l[k] :: l.drop (k + 1) := by
  have h1 : (l.drop a).drop (k - a) = l[k] :: l.drop (k + 1) := by
    rw [List.drop_drop, show a + (k - a) = k by omega, List.drop_eq_getElem_cons hk]
  rw [← h1, List.take_append_drop]
theorem mid_one {l : List Pc} {st k : Nat} (h : ∀ j (hj : j < l.length), st < j → j < k → l[j].many = false) : ∀ p ∈ (l.drop (st + 1)).take (k - (st + 1)), p.many = false := by
  intro p hp
  obtain ⟨i, hi, rfl⟩ := List.mem_iff_getElem.1 hp
  simp at hi ⊢
  exact h _ (by omega) (by omega) (by omega)
theorem mid_len {l : List Pc} {st k : Nat} (hk : k ≤ l.length) : ((l.drop (st + 1)).take (k - (st + 1))).length = k - (st + 1) := by
  simp; omega
/-- From a later place on, what lies between the star and the pattern's place takes just as many bytes. -/
theorem later {l : List Pc} {s : List Int} {st k i f j : Nat} (hst : st < k) (hk : k ≤ l.length) (hm : ∀ j (hj : j < l.length), st < j → j < k → l[j].many = false)
    (he : i - f = k - (st + 1)) (hfi : f ≤ i) (hfj : f < j) (hj : j ≤ s.length) (h : M (l.drop (st + 1)) (s.drop j)) : ∃ j', i < j' ∧ j' ≤ s.length ∧ M (l.drop k) (s.drop j') := by
  have hsp : l.drop (st + 1) = (l.drop (st + 1)).take (k - (st + 1)) ++ l.drop k := by
    have : (l.drop (st + 1)).drop (k - (st + 1)) = l.drop k := by rw [List.drop_drop]; congr 1; omega
    rw [← this, List.take_append_drop]
  rw [hsp, M_app] at h
  obtain ⟨a, b, hab, h1, h2⟩ := h
  have hl := M_len (mid_one hm) h1
  rw [mid_len hk] at hl
  have hal : a.length + b.length = s.length - j := by rw [← List.length_append, ← hab]; simp
  refine ⟨j + a.length, by omega, by omega, ?_⟩
  rw [← List.drop_drop, hab]
  simpa using h2
theorem greedy_star {l : List Pc} {s : List Int} {i k f : Nat} {st : Option Nat} (h : Greedy l s i k st f) (hk : k < l.length) (hm : l[k].many = true) : Greedy l s i (k + 1) (some k) i := by
  obtain ⟨hkl, hi, h⟩ := h
  refine ⟨hk, hi, by omega, Nat.le_refl _, by omega, fun j _ h1 h2 => by omega, ?_⟩
  have hd : l.drop k = l[k] :: l.drop (k + 1) := List.drop_eq_getElem_cons hk
  have hmm : M (l.drop k) (s.drop i) ↔ M (l.drop (k + 1)) (s.drop i) ∨ ∃ j, i < j ∧ j ≤ s.length ∧ M (l.drop (k + 1)) (s.drop j) := by
    rw [hd, M_many hm]
    constructor
    · rintro ⟨j, hj, hM⟩
      rw [List.drop_drop] at hM
      rcases Nat.eq_zero_or_pos j with rfl | h0
      · exact .inl (by simpa using hM)
      · exact .inr ⟨i + j, by omega, by simp at hj; omega, hM⟩
    · rintro (hM | ⟨j, h1, h2, hM⟩)
      · exact ⟨0, Nat.zero_le _, by simpa using hM⟩
      · exact ⟨j - i, by simp; omega, by rw [List.drop_drop, show i + (j - i) = j by omega]; exact hM⟩
  cases st with
  | none => exact h.1.trans hmm
  | some st =>
    obtain ⟨hst, hfi, he, hone, hiff⟩ := h
    rw [hiff, hmm]
    constructor
    · rintro ((hM | hM) | ⟨j, h1, h2, hM⟩)
      · exact .inl hM
      · exact .inr hM
      · obtain ⟨j', h3, h4, h5⟩ := later hst hkl hone he hfi h1 h2 hM
        rw [hd, M_many hm] at h5
        obtain ⟨q, hq, h6⟩ := h5
        rw [List.drop_drop] at h6
        exact .inr ⟨j' + q, by omega, by simp at hq; omega, h6⟩
    · rintro (hM | hM)
      · exact .inl (.inl hM)
      · exact .inl (.inr hM)
theorem greedy_step {l : List Pc} {s : List Int} {i k f : Nat} {st : Option Nat} (h : Greedy l s i k st f) (hk : k < l.length) (hi : i < s.length) (hm : l[k].many = false) (hh : l[k].hit s[i]) : Greedy l s (i + 1) (k + 1) st f := by
  obtain ⟨hkl, hil, h⟩ := h
  have hd : l.drop k = l[k] :: l.drop (k + 1) := List.drop_eq_getElem_cons hk
  have hs : s.drop i = s[i] :: s.drop (i + 1) := List.drop_eq_getElem_cons hi
  have hmm : M (l.drop k) (s.drop i) ↔ M (l.drop (k + 1)) (s.drop (i + 1)) := by
    rw [hd, hs, M_one hm]; exact ⟨fun h => h.2, fun h => ⟨hh, h⟩⟩
  refine ⟨hk, hi, ?_⟩
  cases st with
  | none => exact ⟨h.1.trans hmm, h.2⟩
  | some st =>
    obtain ⟨hst, hfi, he, hone, hiff⟩ := h
    refine ⟨by omega, by omega, by omega, fun j hj h1 h2 => ?_, by rw [hiff, hmm]⟩
    rcases (by omega : j < k ∨ j = k) with h3 | rfl
    · exact hone j hj h1 h3
    · exact hm
theorem no_fit {l : List Pc} {s : List Int} {i k : Nat} (hi : i < s.length) (h : ∀ hk : k < l.length, l[k].many = false ∧ ¬ l[k].hit s[i]) (hkl : k ≤ l.length) : ¬ M (l.drop k) (s.drop i) := by
  have hs : s.drop i = s[i] :: s.drop (i + 1) := List.drop_eq_getElem_cons hi
  rcases Nat.lt_or_ge k l.length with hk | hk
  · have hd : l.drop k = l[k] :: l.drop (k + 1) := List.drop_eq_getElem_cons hk
    rw [hd, hs, M_one (h hk).1]
    exact fun hh => (h hk).2 hh.1
  · rw [List.drop_eq_nil_of_le hk, hs]; simp [M, hi]
theorem greedy_back {l : List Pc} {s : List Int} {i k f st : Nat} (h : Greedy l s i k (some st) f) (hi : i < s.length) (hn : ∀ hk : k < l.length, l[k].many = false ∧ ¬ l[k].hit s[i]) : Greedy l s (f + 1) (st + 1) (some st) (f + 1) := by
  obtain ⟨hkl, hil, hst, hfi, he, hone, hiff⟩ := h
  refine ⟨by omega, by omega, by omega, Nat.le_refl _, by omega, fun j _ h1 h2 => by omega, ?_⟩
  rw [hiff]
  constructor
  · rintro (hM | ⟨j, h1, h2, hM⟩)
    · exact absurd hM (no_fit hi hn hkl)
    · rcases (by omega : j = f + 1 ∨ f + 1 < j) with rfl | h3
      · exact .inl hM
      · exact .inr ⟨j, h3, h2, hM⟩
  · rintro (hM | ⟨j, h1, h2, hM⟩)
    · exact .inr ⟨f + 1, by omega, by omega, hM⟩
    · exact .inr ⟨j, by omega, h2, hM⟩
theorem greedy_fail {l : List Pc} {s : List Int} {i k f : Nat} (h : Greedy l s i k none f) (hi : i < s.length) (hn : ∀ hk : k < l.length, l[k].many = false ∧ ¬ l[k].hit s[i]) : ¬ M l s := by
  obtain ⟨hkl, hil, h⟩ := h
  rw [h.1]; exact no_fit hi hn hkl
theorem greedy_end {l : List Pc} {s : List Int} {k f : Nat} {st : Option Nat} (h : Greedy l s s.length k st f) : M l s ↔ M (l.drop k) [] := by
  obtain ⟨hkl, hil, h⟩ := h
  cases st with
  | none => rw [h.1]; simp
  | some st =>
    obtain ⟨hst, hfi, he, hone, hiff⟩ := h
    rw [hiff]; simp
    intro j h1 h2 hM
    obtain ⟨j', h3, h4, _⟩ := later hst hkl hone he hfi h1 h2 hM
    omega
theorem end_yes {l : List Pc} {k : Nat} (h : ∀ j (hj : j < l.length), k ≤ j → l[j].many = true) : M (l.drop k) [] := by
  refine M_all_many fun p hp => ?_
  obtain ⟨i, hi, rfl⟩ := List.mem_iff_getElem.1 hp
  simp at hi ⊢
  exact h _ (by omega) (by omega)
theorem end_no {l : List Pc} {k k2 : Nat} (hk : k ≤ k2) (hk2 : k2 < l.length) (hm : l[k2].many = false) : ¬ M (l.drop k) [] := by
  rw [drop_mid hk hk2, M_app]
  rintro ⟨a, b, h0, _, h2⟩
  obtain ⟨rfl, rfl⟩ : a = [] ∧ b = [] := by simpa using h0.symm
  exact M_one_nil hm h2
/-! The table. -/
theorem M_snoc_many {pre : List Pc} {p : Pc} (hp : p.many = true) {t : List Int} : M (pre ++ [p]) t ↔ ∃ j, j ≤ t.length ∧ M pre (t.take j) := by
  rw [M_app]
  constructor
  · rintro ⟨a, b, rfl, h1, h2⟩; exact ⟨a.length, by simp, by simpa using h1⟩
  · rintro ⟨j, hj, h⟩; exact ⟨t.take j, t.drop j, (List.take_append_drop j t).symm, h, ⟨t.drop j, [], by simp, by simp [Pc.ok, hp], rfl⟩⟩
theorem M_row_many {pre : List Pc} {p : Pc} (hp : p.many = true) {s : List Int} {i : Nat} (hi : i < s.length) :
    M (pre ++ [p]) (s.take (i + 1)) ↔ M pre (s.take (i + 1)) ∨ M (pre ++ [p]) (s.take i) := by
  rw [M_snoc_many hp, M_snoc_many hp]
  constructor
  · rintro ⟨j, hj, h⟩
    simp at hj
    rcases (by omega : j = i + 1 ∨ j ≤ i) with rfl | h3
    · exact .inl (by simpa [List.take_take] using h)
    · refine .inr ⟨j, by simp; omega, ?_⟩
      rw [List.take_take, show min j (i + 1) = j by omega] at h
      rw [List.take_take, show min j i = j by omega]
      exact h
  · rintro (h | ⟨j, hj, h⟩)
    · exact ⟨i + 1, by simp; omega, by simpa [List.take_take] using h⟩
    · simp at hj
      refine ⟨j, by simp; omega, ?_⟩
      rw [List.take_take, show min j i = j by omega] at h
      rw [List.take_take, show min j (i + 1) = j by omega]
      exact h
theorem M_row_many0 {pre : List Pc} {p : Pc} (hp : p.many = true) : M (pre ++ [p]) [] ↔ M pre [] := by
  rw [M_snoc_many hp]; simp
theorem M_row_one {pre : List Pc} {p : Pc} (hp : p.many = false) {s : List Int} {i : Nat} (hi : i < s.length) :
    M (pre ++ [p]) (s.take (i + 1)) ↔ M pre (s.take i) ∧ p.hit s[i] := by
  rw [M_app, List.take_succ_eq_append_getElem hi]
  constructor
  · rintro ⟨a, b, h0, h1, c, d, rfl, h2, h3⟩
    obtain rfl : d = [] := h3
    simp only [Pc.ok, hp] at h2
    obtain ⟨x, rfl, h4⟩ := h2
    simp only [List.append_nil] at h0
    obtain ⟨rfl, h5⟩ := List.append_inj' h0 rfl
    simp at h5
    exact ⟨h1, by rw [h5]; exact h4⟩
  · rintro ⟨h1, h2⟩
    exact ⟨s.take i, [s[i]], rfl, h1, [s[i]], [], rfl, by simp only [Pc.ok, hp]; exact ⟨_, rfl, h2⟩, rfl⟩
theorem M_row_one0 {pre : List Pc} {p : Pc} (hp : p.many = false) : ¬ M (pre ++ [p]) [] := by
  rw [M_app]
  rintro ⟨a, b, h0, h1, h2⟩
  obtain ⟨rfl, rfl⟩ : a = [] ∧ b = [] := by simpa using h0.symm
  exact M_one_nil hp h2
/-! The pieces of a pattern. -/
def piecesOf : List Int → List Pc
  | [] => []
  | [a] => [⟨a, a == 63, a == 42⟩]
  | a :: b :: t => if a = 92 then ⟨b, false, false⟩ :: piecesOf t else ⟨a, a == 63, a == 42⟩ :: piecesOf (b :: t)
theorem pieces_esc {l : List Int} {k : Nat} (hk : k + 1 < l.length) (h : l[k] = 92) : piecesOf (l.drop k) = ⟨l[k + 1], false, false⟩ :: piecesOf (l.drop (k + 2)) := by
  rw [List.drop_eq_getElem_cons (by omega : k < l.length), List.drop_eq_getElem_cons hk, piecesOf, if_pos h]
theorem pieces_one {l : List Int} {k : Nat} (hk : k < l.length) (h : l[k] ≠ 92 ∨ k + 1 = l.length) : piecesOf (l.drop k) = ⟨l[k], l[k] == 63, l[k] == 42⟩ :: piecesOf (l.drop (k + 1)) := by
  rw [List.drop_eq_getElem_cons hk]
  rcases Nat.lt_or_ge (k + 1) l.length with h1 | h1
  · rw [List.drop_eq_getElem_cons h1, piecesOf, if_neg (by omega)]
  · rw [List.drop_eq_nil_of_le h1]; rfl
theorem pieces_end {l : List Int} : piecesOf (l.drop l.length) = [] := by simp [piecesOf]
end Go.Proofs.Ytioemcfadniokaa.H
