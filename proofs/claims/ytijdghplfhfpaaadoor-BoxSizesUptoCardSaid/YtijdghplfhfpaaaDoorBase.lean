/- Rows of the program's types, and what every walk calls. -/
import Derived.Test.YtijdghplfhfpaaaDoorU
import Derived.Test.YtijdghplfhfpaaaDoorProg
namespace Go.Proofs.YtijdghplfhfpaaaDoor.H
open Go.RowKit Go.Proofs.YtijdghplfhfpaaaDoorW.PrintWords Go.Proofs.YtijdghplfhfpaaaDoorW.PrintLast Go.Proofs.YtijdghplfhfpaaaDoorW.PrintMore Go.Proofs.YtijdghplfhfpaaaDoor.U
set_option linter.unusedVariables false
set_option linter.unusedSimpArgs false
/-- The model's test of a text against a literal. -/
theorem lit_iff (s : ByteArray) (l : List UInt8) : (s.toList == l) = true ↔ s = ⟨l.toArray⟩ := by
  rw [beq_iff_eq, ByteArray.toList_eq]
  exact ⟨fun h => ByteArray.ext (Array.toList_inj.mp (by simpa using h)), fun h => by rw [h]⟩
theorem lit_yes {s : ByteArray} {l : List UInt8} (h : s = ⟨l.toArray⟩) : (s.toList == l) = true := (lit_iff s l).2 h
theorem lit_no {s : ByteArray} {l : List UInt8} (h : s ≠ ⟨l.toArray⟩) : (s.toList == l) = false := by rw [← Bool.not_eq_true, lit_iff]; exact h
theorem rowU8 : RowT Tryd.prog (Kd.int .u8) 215 5 1 (.int .u8 0) :=
  ⟨Tryd.underlying215, by kernel_rfl, rfl, by decide, by decide, flat_scalar⟩
theorem rowStr : RowT Tryd.prog Kd.string 53 9 16 (.string ⟨#[]⟩) :=
  ⟨Tryd.underlying53, by kernel_rfl, rfl, by decide, by decide, flat_scalar⟩
theorem in_calls (a b c : Int) (w : World) : Calls Tryd.prog 52 #[.int .i64 a, .int .i64 b, .int .i64 c] w fun e w' => e = .returned (.bool (decide (b ≤ a) && decide (a ≤ c))) ∧ w = w' := by
  by_cases h : b ≤ a
  all_goals
    go_enter Tryd.func52, Tryd.ntmps52
    go_wp2
    go_ret
    exact ⟨by first | (simp [h]; done) | (simp; omega), rfl⟩
theorem in_yes (a b c : Int) (w : World) (h1 : b ≤ a) (h2 : a ≤ c) : Calls Tryd.prog 52 #[.int .i64 a, .int .i64 b, .int .i64 c] w fun e w' => e = .returned (.bool true) ∧ w = w' :=
  (in_calls a b c w).mono fun e w' ⟨he, hw⟩ => ⟨by rw [he]; simp [h1, h2], hw⟩
theorem in_no (a b c : Int) (w : World) (h : ¬ (b ≤ a ∧ a ≤ c)) : Calls Tryd.prog 52 #[.int .i64 a, .int .i64 b, .int .i64 c] w fun e w' => e = .returned (.bool false) ∧ w = w' :=
  (in_calls a b c w).mono fun e w' ⟨he, hw⟩ => ⟨by rw [he]; simp; omega, hw⟩
end Go.Proofs.YtijdghplfhfpaaaDoor.H
