/- Bytes as numbers. -/
import Derived.Test.YtpeenmbonhijmaaDoorU
namespace Go.Proofs.YtpeenmbonhijmaaDoor.H
open Go.RowKit Go.Proofs.YtpeenmbonhijmaaDoorW.PrintWords Go.Proofs.YtpeenmbonhijmaaDoorW.PrintLast Go.Proofs.YtpeenmbonhijmaaDoorW.PrintMore Go.Proofs.YtpeenmbonhijmaaDoor.U
set_option linter.unusedVariables false
set_option linter.unusedSimpArgs false
def numsOf (l : List UInt8) : List Int := l.map fun b => (b.toNat : Int)
theorem str_numsOf (l : List UInt8) : strOfNums (numsOf l) = ⟨l.toArray⟩ := by
  apply bytes_iff.1
  simp [strOfNums, numsOf, Function.comp_def]
theorem numsOf_cat (a b : List UInt8) : numsOf (a ++ b) = numsOf a ++ numsOf b := by simp [numsOf]
theorem numsOf_len (a : List UInt8) : (numsOf a).length = a.length := by simp [numsOf]
end Go.Proofs.YtpeenmbonhijmaaDoor.H
