/- Rows of addresses: the walks. -/
import Derived.Test.YtdffojjimoilgaaDoorKinds
import Derived.Test.YtdffojjimoilgaaDoorCur
import Derived.Deep.QuietTactic
import Derived.BigQuiet
namespace Go.Proofs.YtdffojjimoilgaaDoor.H
open Go.RowKit Go.Proofs.YtdffojjimoilgaaDoorW.PrintWords Go.Proofs.YtdffojjimoilgaaDoorW.PrintLast Go.Proofs.YtdffojjimoilgaaDoorW.PrintMore Go.Proofs.YtdffojjimoilgaaDoor.U
set_option linter.unusedVariables false
set_option linter.unusedSimpArgs false
theorem rowAAddress : RowT Tryd.prog kAAddress 95 113 32 (.agg #[.string ⟨#[]⟩, .string ⟨#[]⟩]) :=
  ⟨Tryd.underlying95, by kernel_rfl, rfl, by decide, by decide, flat_kd⟩
def eqbAAddress (x y : AAddress) : Bool := x.loc.toList == y.loc.toList && (x.dom.toList == y.dom.toList)
theorem eqbAAddress_iff {x y : AAddress} : eqbAAddress x y = true ↔ x = y := by
  cases x; cases y
  simp only [eqbAAddress, Bool.and_eq_true, beq_iff_eq, ByteArray.toList_eq, bytes_iff, AAddress.mk.injEq]
theorem eqbAAddress_self (x : AAddress) : eqbAAddress x x = true := eqbAAddress_iff.2 rfl
theorem eqAAddress (d : Nat) (w : World) (x_loc : ByteArray) (x_dom : ByteArray) (y_loc : ByteArray) (y_dom : ByteArray) :
    (Op.equalIn (d + 2) 113 (.agg #[.string x_loc, .string x_dom]) (.agg #[.string y_loc, .string y_dom])).run Tryd.prog w = .ok (eqbAAddress ⟨x_loc, x_dom⟩ ⟨y_loc, y_dom⟩) w := by
  refine eqA_of Tryd.underlying113 (by kernel_rfl) ?_
  refine eqf_cons (by rfl) (by go_simp; rfl) (by go_simp; rfl) (by go_simp) ?_
  exact eqf_last (by rfl) (by go_simp; rfl) (by go_simp; rfl) (by go_simp)
attribute [local go_sem high] eqAAddress
def hasA (l : List AAddress) (x : AAddress) : Bool := l.any fun y => eqbAAddress y x
theorem hasA_no {l : List AAddress} {x : AAddress} (h : ∀ j (hj : j < l.length), eqbAAddress l[j] x = false) : hasA l x = false := by
  rw [hasA, List.any_eq_false]
  intro y hy
  obtain ⟨i, hi, rfl⟩ := List.mem_iff_getElem.1 hy
  simpa using h i hi
theorem hasA_yes {l : List AAddress} {x : AAddress} (k : Nat) (hk : k < l.length) (h : eqbAAddress l[k] x = true) : hasA l x = true := by
  rw [hasA, List.any_eq_true]
  exact ⟨_, List.getElem_mem hk, h⟩
end Go.Proofs.YtdffojjimoilgaaDoor.H
