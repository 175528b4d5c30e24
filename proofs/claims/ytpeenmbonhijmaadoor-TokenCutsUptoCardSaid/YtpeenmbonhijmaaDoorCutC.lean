/- Scripts cut into tokens: numbers: the walk of the cutter's number. -/
import Derived.Test.YtpeenmbonhijmaaDoorCutA
import Derived.Deep.QuietTactic
import Derived.BigQuiet
import Derived.Lib.AtoiAllCases
import Derived.Lib.AtoiErrMem
import Derived.Shelf.Strconv.AtoiAll
namespace Go.Proofs.YtpeenmbonhijmaaDoor.H
open Go.RowKit Go.Proofs.YtpeenmbonhijmaaDoorW.PrintWords Go.Proofs.YtpeenmbonhijmaaDoorW.PrintLast Go.Proofs.YtpeenmbonhijmaaDoorW.PrintMore Go.Proofs.YtpeenmbonhijmaaDoor.U
set_option linter.unusedVariables false
set_option linter.unusedSimpArgs false
def numFrom (a : Nat) (l : List UInt8) : Nat := l.foldl (fun n b => 10 * n + (b.toNat - 48)) a
theorem numFrom_ge : ∀ (l : List UInt8) (a : Nat), a ≤ numFrom a l
  | [], a => Nat.le_refl _
  | c :: r, a => by
    have := numFrom_ge r (10 * a + (c.toNat - 48))
    show a ≤ numFrom (10 * a + (c.toNat - 48)) r
    omega
theorem parse_digits : ∀ (l : List UInt8) (a : Nat), (∀ b ∈ l, digitB b.toNat = true) → (Lib.parseUint10 a l = .ok (numFrom a l)) ∨ (Lib.parseUint10 a l = .range ∧ 18446744073709551616 ≤ numFrom a l)
  | [], a, h => .inl rfl
  | c :: r, a, h => by
    have hc := h c (by simp)
    simp only [digitB, Bool.and_eq_true, decide_eq_true_eq] at hc
    have hr : ∀ b ∈ r, digitB b.toNat = true := fun b hb => h b (by simp [hb])
    have e1 : numFrom a (c :: r) = numFrom (10 * a + (c.toNat - 48)) r := rfl
    have hge := numFrom_ge r (10 * a + (c.toNat - 48))
    rw [Lib.parseUint10, if_pos (by omega), e1]
    by_cases h1 : 1844674407370955162 ≤ a
    · rw [if_pos h1]; exact .inr ⟨rfl, by omega⟩
    · rw [if_neg h1]
      by_cases h2 : 18446744073709551616 ≤ a * 10 + (c.toNat - 48)
      · rw [if_pos h2]; exact .inr ⟨rfl, by omega⟩
      · rw [if_neg h2, show a * 10 + (c.toNat - 48) = 10 * a + (c.toNat - 48) by omega]
        exact parse_digits r _ hr
theorem atoi_digits {l : List UInt8} (hne : l ≠ []) (h : ∀ b ∈ l, digitB b.toNat = true) : (numV l ≤ 9223372036854775807 ∧ Lib.atoiAll l = .ok (numV l)) ∨ (9223372036854775807 < numV l ∧ Lib.atoiAll l = .range) := by
  match l, hne with
  | c :: r, _ =>
    have hc := h c (by simp)
    simp only [digitB, Bool.and_eq_true, decide_eq_true_eq] at hc
    rw [Lib.atoiAll_plain c r (by omega) (by omega), Lib.parseMag, if_neg (by simp)]
    have e : numV (c :: r) = numFrom 0 (c :: r) := rfl
    rw [e]
    rcases parse_digits (c :: r) 0 h with h1 | ⟨h1, h2⟩
    · rw [h1, Lib.signless]
      by_cases h3 : 9223372036854775808 ≤ numFrom 0 (c :: r)
      · rw [if_pos h3]; exact .inr ⟨by omega, rfl⟩
      · rw [if_neg h3]; exact .inl ⟨by omega, rfl⟩
    · rw [h1, Lib.signless]; exact .inr ⟨by omega, rfl⟩
/-- An error value lies there. -/
def ErrAt (w : World) (g : Nat) : Prop := ∃ ev, w.cell? ⟨g, 0, none⟩ = some ev ∧ (ev = .nilIface ∨ ∃ te pe, ev = .iface te pe)
/-- What strconv.Atoi hands back at digits. -/
def PostAtoi (w : World) (n : Nat) (e : Ending) (w' : World) : Prop :=
  ((n ≤ 9223372036854775807 ∧ e = .returned (.tuple #[.int .i64 n, .nilIface])) ∨ (9223372036854775807 < n ∧ ∃ (t N : Nat), e = .returned (.tuple #[.int .i64 9223372036854775807, .iface t (.pointer (some ⟨N, 0, none⟩))]))) ∧ Below w.heap.size w w'
theorem atoi_calls (s : ByteArray) (w : World) (hs : s.size ≤ 1048576) (hne : s.data.toList ≠ []) (hd : ∀ b ∈ s.data.toList, digitB b.toNat = true) (hE : ErrAt w 5) :
    Calls Tryd.prog 170 #[.string s] w (PostAtoi w (numV s.data.toList)) := by
  rcases atoi_digits hne hd with ⟨h1, h2⟩ | ⟨h1, h2⟩
  · refine (Tryd.strconv_Atoi_ok s (by omega) _ h2 w).mono ?_
    rintro e w' ⟨he, hw⟩
    refine ⟨.inl ⟨h1, he⟩, ?_⟩
    rcases hw with rfl | ⟨t, rfl⟩
    · exact Below.refl _ _
    · exact Lib.bytesWorld_below w _ t
  · obtain ⟨ev, hv, hev⟩ := hE
    have hsat : Lib.atoiSat s.data.toList = 9223372036854775807 := by
      generalize s.data.toList = l at *
      match l, hne with
      | c :: r, _ =>
        have hc := hd c (by simp)
        simp only [digitB, Bool.and_eq_true, decide_eq_true_eq] at hc
        rw [Lib.atoiSat_other c r (by omega)]
    have H := Tryd.strconv_Atoi_range s (by omega) h2 ev w hv hev
    rw [hsat] at H
    refine H.mono fun e w' hh => ?_
    obtain ⟨N, he, _, _, hb⟩ := hh
    exact ⟨Or.inr ⟨h1, _, N, he⟩, hb⟩
end Go.Proofs.YtpeenmbonhijmaaDoor.H
