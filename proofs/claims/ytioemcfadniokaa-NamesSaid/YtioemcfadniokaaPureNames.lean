/- The law Names answers true: the numbers, kinds and limits of package api are the document's. No conditions. -/
import Derived.Test.YtioemcfadniokaaPNamesx1
namespace Go.Proofs.Ytioemcfadniokaa.Pure
open Go.RowKit Go.Proofs.Ytioemcfadniokaa.PNames Go.Proofs.YtioemcfadniokaaW.PrintWords Go.Proofs.YtioemcfadniokaaW.PrintLast

/-- YOURS: ∃ k, postroomlaw_Names.f k  = some true
What it reaches (each with k first where it has rounds; `.mono`: more rounds tell the same; `.l0`, ..: its loops, with `.mono_l`): postroomlaw_Names.f -/
theorem Names : postroomlaw_Names.Pure := by
  exact ⟨120, by decide +kernel⟩

end Go.Proofs.Ytioemcfadniokaa.Pure
