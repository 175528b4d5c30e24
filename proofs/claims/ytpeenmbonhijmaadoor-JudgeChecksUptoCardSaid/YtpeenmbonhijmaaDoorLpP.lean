/- Letters parsed: what is read, in plain words; where a line ends; where its colon stands. -/
import Derived.Test.YtpeenmbonhijmaaDoorLetC
import Derived.Test.YtpeenmbonhijmaaDoorLetF
import Derived.Test.YtpeenmbonhijmaaDoorSpanP
namespace Go.Proofs.YtpeenmbonhijmaaDoor.H
open Go.RowKit Go.Proofs.YtpeenmbonhijmaaDoorW.PrintWords Go.Proofs.YtpeenmbonhijmaaDoorW.PrintLast Go.Proofs.YtpeenmbonhijmaaDoorW.PrintMore Go.Proofs.YtpeenmbonhijmaaDoor.U
set_option linter.unusedVariables false
set_option linter.unusedSimpArgs false
def notColon (c : Int) : Bool := decide (c ≠ 58)
def addLast (l : List AField) (x : ByteArray) : List AField := l.set (l.length - 1) ⟨(l.getD (l.length - 1) ⟨⟨#[]⟩, ⟨#[]⟩⟩).name, (l.getD (l.length - 1) ⟨⟨#[]⟩, ⟨#[]⟩⟩).value ++ x⟩
def trimF (x : AField) : AField := ⟨x.name, trimT x.value⟩
/-- A line's end lies in the text. -/
theorem lineV_in (s : ByteArray) (i : Nat) : lineV s i = -1 ∨ ∃ e : Nat, lineV s i = e ∧ i ≤ e ∧ e + 2 ≤ s.size := by
  have h := fun k (h1 : i ≤ k) h2 h3 h4 => lineV_first (s := s) (i := i) (k := k) h1 h2 h3 h4
  by_cases hx : ∃ k, i ≤ k ∧ k + 1 < s.size ∧ Lib.occAt s.data.toList crlf k = true
  · have hmin : ∀ n, (∃ k, i ≤ k ∧ k + 1 < s.size ∧ Lib.occAt s.data.toList crlf k = true ∧ k ≤ n) → ∃ k, i ≤ k ∧ k + 1 < s.size ∧ Lib.occAt s.data.toList crlf k = true ∧ ∀ j, i ≤ j → j < k → Lib.occAt s.data.toList crlf j = false := by
      intro n
      induction n with
      | zero =>
        rintro ⟨k, h1, h2, h3, h4⟩
        exact ⟨k, h1, h2, h3, fun j hj hk => by omega⟩
      | succ n ih =>
        rintro ⟨k, h1, h2, h3, h4⟩
        by_cases hy : ∃ k, i ≤ k ∧ k + 1 < s.size ∧ Lib.occAt s.data.toList crlf k = true ∧ k ≤ n
        · exact ih hy
        · refine ⟨k, h1, h2, h3, fun j hj hk => ?_⟩
          cases ho : Lib.occAt s.data.toList crlf j with
          | false => rfl
          | true => exact absurd ⟨j, hj, by omega, ho, by omega⟩ hy
    obtain ⟨k, h1, h2, h3⟩ := hx
    obtain ⟨e, e1, e2, e3, e4⟩ := hmin k ⟨k, h1, h2, h3, Nat.le_refl _⟩
    exact .inr ⟨e, h e e1 e2 e3 e4, e1, by omega⟩
  · refine .inl (lineV_none fun j h1 h2 => ?_)
    cases ho : Lib.occAt s.data.toList crlf j with
    | false => rfl
    | true => exact absurd ⟨j, h1, h2, ho⟩ hx
/-- A letter's fields from a place on, behind others: what is wrong, the line, the fields, the body. -/
def parseGo (s : ByteArray) (i ln : Nat) (l : List AField) : Int × Nat × List AField × ByteArray :=
  if lineV s i < 0 then (4, ln, [], ⟨#[]⟩)
  else if (lineV s i).toNat = i then (0, 0, l.map trimF, s.extract (i + 2) s.size)
  else if i < (lineV s i).toNat + 2 ∧ (lineV s i).toNat + 2 ≤ s.size then
    if (nx s i = 32 ∨ nx s i = 9) ∧ l ≠ [] then parseGo s ((lineV s i).toNat + 2) (ln + 1) (addLast l (s.extract i (lineV s i).toNat))
    else if (lineV s i).toNat ≤ spanEnd notColon s i ∨ nameOk (s.extract i (spanEnd notColon s i)) = false then (3, ln, [], ⟨#[]⟩)
    else if l.length = 30 then (5, ln, [], ⟨#[]⟩)
    else parseGo s ((lineV s i).toNat + 2) (ln + 1) (l ++ [⟨s.extract i (spanEnd notColon s i), s.extract (spanEnd notColon s i + 1) (lineV s i).toNat⟩])
  else (0, 0, [], ⟨#[]⟩)
termination_by s.size - i
decreasing_by all_goals omega
def parseV (s : ByteArray) : Int × Nat × List AField × ByteArray := if 2000 < s.size then (1, 0, [], ⟨#[]⟩) else parseGo s 0 0 []
theorem parse_open {s : ByteArray} {i ln : Nat} {l : List AField} (h : lineV s i = -1) : parseGo s i ln l = (4, ln, [], ⟨#[]⟩) := by
  rw [parseGo, if_pos (by omega)]
theorem parse_end {s : ByteArray} {i ln : Nat} {l : List AField} (h : lineV s i = i) : parseGo s i ln l = (0, 0, l.map trimF, s.extract (i + 2) s.size) := by
  rw [parseGo, if_neg (by omega), if_pos (by omega)]
theorem parse_more {s : ByteArray} {i ln e : Nat} {l : List AField} (h : lineV s i = e) (h1 : i < e) (h2 : e + 2 ≤ s.size) (hb : nx s i = 32 ∨ nx s i = 9) (hl : l ≠ []) : parseGo s i ln l = parseGo s (e + 2) (ln + 1) (addLast l (s.extract i e)) := by
  have h3 : (lineV s i).toNat = e := by omega
  conv => lhs; rw [parseGo, if_neg (by omega), if_neg (by omega), h3, if_pos ⟨by omega, h2⟩, if_pos ⟨hb, hl⟩]
theorem parse_name {s : ByteArray} {i ln e c : Nat} {l : List AField} (h : lineV s i = e) (h1 : i < e) (h2 : e + 2 ≤ s.size) (hb : ¬ ((nx s i = 32 ∨ nx s i = 9) ∧ l ≠ [])) (hc : spanEnd notColon s i = c) (hn : e ≤ c ∨ nameOk (s.extract i c) = false) : parseGo s i ln l = (3, ln, [], ⟨#[]⟩) := by
  have h3 : (lineV s i).toNat = e := by omega
  rw [parseGo, if_neg (by omega), if_neg (by omega), h3, if_pos ⟨by omega, h2⟩, if_neg hb, hc, if_pos hn]
theorem parse_many {s : ByteArray} {i ln e c : Nat} {l : List AField} (h : lineV s i = e) (h1 : i < e) (h2 : e + 2 ≤ s.size) (hb : ¬ ((nx s i = 32 ∨ nx s i = 9) ∧ l ≠ [])) (hc : spanEnd notColon s i = c) (hn : ¬ (e ≤ c ∨ nameOk (s.extract i c) = false)) (hl : l.length = 30) : parseGo s i ln l = (5, ln, [], ⟨#[]⟩) := by
  have h3 : (lineV s i).toNat = e := by omega
  rw [parseGo, if_neg (by omega), if_neg (by omega), h3, if_pos ⟨by omega, h2⟩, if_neg hb, hc, if_neg hn, if_pos hl]
theorem parse_next {s : ByteArray} {i ln e c : Nat} {l : List AField} (h : lineV s i = e) (h1 : i < e) (h2 : e + 2 ≤ s.size) (hb : ¬ ((nx s i = 32 ∨ nx s i = 9) ∧ l ≠ [])) (hc : spanEnd notColon s i = c) (hn : ¬ (e ≤ c ∨ nameOk (s.extract i c) = false)) (hl : l.length ≠ 30) : parseGo s i ln l = parseGo s (e + 2) (ln + 1) (l ++ [⟨s.extract i c, s.extract (c + 1) e⟩]) := by
  have h3 : (lineV s i).toNat = e := by omega
  conv => lhs; rw [parseGo, if_neg (by omega), if_neg (by omega), h3, if_pos ⟨by omega, h2⟩, if_neg hb, hc, if_neg hn, if_neg hl]
/-- A line's own colon: the same place, in the line. -/
theorem colon_line (s : ByteArray) (i e : Nat) (h1 : i ≤ e) (h2 : e ≤ s.size) : spanEnd notColon (s.extract i e) 0 = if e ≤ spanEnd notColon s i then e - i else spanEnd notColon s i - i := by
  have key : ∀ n k, e - k = n → i ≤ k → k ≤ e → spanEnd notColon (s.extract i e) (k - i) = if e ≤ spanEnd notColon s k then e - i else spanEnd notColon s k - i := by
    intro n
    induction n with
    | zero =>
      intro k hk h3 h4
      have hge := span_ge notColon s k (by omega)
      rw [spanEnd_end _ (by rw [ext_size h2]; omega), if_pos (by omega)]; omega
    | succ n ih =>
      intro k hk h3 h4
      have hke : k < e := by omega
      have hks : k < s.size := by omega
      have hx : k - i < (s.extract i e).size := by rw [ext_size h2]; omega
      have hg : (s.extract i e)[k - i] = s[k] := by
        rw [ByteArray.getElem_extract]; congr 1; omega
      cases hc : notColon s[k].toNat with
      | true =>
        have := ih (k + 1) (by omega) (by omega) (by omega)
        rw [spanEnd_yes _ hx (by rw [hg]; exact hc), spanEnd_yes _ hks hc, show k - i + 1 = k + 1 - i by omega, this]
      | false =>
        rw [spanEnd_no _ hx (by rw [hg]; exact hc), spanEnd_no _ hks hc, if_neg (by omega)]
  have := key _ i rfl (Nat.le_refl _) h1
  rwa [Nat.sub_self] at this
end Go.Proofs.YtpeenmbonhijmaaDoor.H
