/- The law GlobMatches answers true at every kind and texts of small bulk: glob.Match answers as the reference's MatchOf. -/
import Derived.Test.YtioemcfadniokaaRows
import Derived.Test.YtioemcfadniokaaOpensU
import Derived.Test.YtioemcfadniokaaLaid
import Derived.Test.YtioemcfadniokaaGlobS
import Derived.Shelf.Vars
import Derived.WalkKit
import Derived.ProofKit
import Derived.OpenShut
import Derived.ShutString
import Derived.ChangeOld
import Derived.Below
import Derived.Carry
namespace Go.Proofs.Ytioemcfadniokaa.globMatches
open Go.ChangeShapes Go.WideShapes Go.ChangeAt Go.RowKit Go.Proofs.YtioemcfadniokaaW.PrintWords Go.Proofs.Ytioemcfadniokaa.U Go.Proofs.Ytioemcfadniokaa.UB Go.Proofs.Ytioemcfadniokaa.H
open Go.ChangeMaps (open_string shut_string)
set_option linter.unusedVariables false
set_option maxRecDepth 100000
theorem own : ownKnob Try.prog.godebug = none := by kernel_rfl
theorem laidOut : laidOutB Try.prog = true := by kernel_rfl
set_option maxRecDepth 100000 in
theorem lifted (os : Os) (started : os.Started) (H : Type) (enc : TypeId × Value → H) (F : Stop.Interp) :
    ReturnsInHanded {} Try.checked os 11 .any ((Rows.OpenSpec.upto Rows.globMatchesSpec).preRow enc Try.prog Try.f11 Rows.globMatchesUptoRow.domain false Rows.globMatchesUptoRow.laid) (((Rows.OpenSpec.upto Rows.globMatchesSpec).at F).post enc Try.prog Try.f11 false true false false) := by
  refine returnsInHanded_of_row (C := Try.checked) (s := Rows.OpenSpec.upto Rows.globMatchesSpec) own started (by kernel_rfl) Try.func11
    (witness_up (enc := enc) (C := Try.checked) (s := Rows.OpenSpec.upto Rows.globMatchesSpec) (laid := Rows.globMatchesUptoRow.laid) os #[.int .i64 0, .string ByteArray.empty, .string ByteArray.empty] 8 (World.shaped_of_ZipB (by kernel_rfl) (by kernel_rfl)) (by kernel_rfl) ([.lit (.int .i64 0), .lit (.string []), .lit (.string [])], [], []) (by kernel_rfl) (by kernel_rfl)
      (fun k hk => by cases hk; kernel_rfl) (by kernel_rfl)
      (by rw [MakeChecks.laidMetH_plain _ _ _ (by kernel_rfl)]; exact laidMet_laidAll _ (by kernel_rfl) (by kernel_rfl))) ?_
  intro W base args ds gs before hval0 hW hcnd hcond hsz hL hsh _
  have hk : Rows.uptoSmall H (ds ++ gs) = true := hcond _ rfl
  have hval : ∀ (j : Nat) t v, Try.f11.params[j]? = some t → args[j]? = some v → Value.okWide Try.prog W .any base t v := hval0
  have hW' := hW
  obtain ⟨p, q, hA0, hV, rfl, hfz, hnd⟩ := hW
  have hA : DataW.TrodAll enc Try.prog W 0 (fun _ => true) true Try.f11.params.toList args.toList ds p := hA0
  rw [Try.params11] at hA hval
  rw [MakeChecks.laidMetH_plain _ _ _ (by kernel_rfl)] at hL
  obtain ⟨ps, hL, hLn, hLc⟩ := hL
  obtain ⟨v0, vs0, d0, ds0, p0, q0, hargs, rfl, rfl, h0, r0⟩ := trodAll_cons hA
  obtain ⟨v1, vs1, d1, ds1, p1, q1, rfl, rfl, rfl, h1, r1⟩ := trodAll_cons r0
  obtain ⟨v2, vs2, d2, ds2, p2, q2, rfl, rfl, rfl, h2, r2⟩ := trodAll_cons r1
  obtain ⟨rfl, rfl, rfl⟩ := trodAll_nil r2
  obtain rfl : args = #[v0, v1, v2] := by cases args; simp_all
  obtain ⟨rfl, rfl⟩ := trodVars_none hV
  have lt0 : ∀ x ∈ p0, x.block < W.heap.size := by obtain ⟨m, hm⟩ := h0; exact DataW.trod_lt m _ _ _ hm
  have lt1 : ∀ x ∈ p1, x.block < W.heap.size := by obtain ⟨m, hm⟩ := h1; exact DataW.trod_lt m _ _ _ hm
  have lt2 : ∀ x ∈ p2, x.block < W.heap.size := by obtain ⟨m, hm⟩ := h2; exact DataW.trod_lt m _ _ _ hm
  obtain ⟨k, rfl, hwf⟩ := arg_int Try.underlying3 (hval 0 _ v0 rfl rfl) h0
  obtain ⟨s, rfl, hs⟩ := arg_string Try.underlying9 (hval 1 _ v1 rfl rfl) h1 (bulk_arg hk (j := 1) rfl)
  obtain ⟨p, rfl, hp⟩ := arg_string Try.underlying9 (hval 2 _ v2 rfl rfl) h2 (bulk_arg hk (j := 2) rfl)
  obtain ⟨m, hm⟩ := cell_of_shapedOpen_int (g := 0) (zero := #[.int .i64 0]) hsh (of_decide_eq_true (by kernel_rfl)) (by kernel_rfl) (by kernel_rfl) (by kernel_rfl) (by kernel_rfl) Try.underlying3
  refine (globMatches_walk k s p m W hm (lt_of_cell hm)).mono fun e W' ⟨he, bel⟩ => ?_
  subst he
  refine ⟨_, rfl, _, _, _, [], _, [], hW', trodAll_mk1 (shut_bool Try.underlying4 _), (trodAll_cons_mk (Below.trod laidOut (by kernel_rfl) (of_decide_eq_true (by kernel_rfl)) h0 bel lt0) (trodAll_cons_mk (Below.trod laidOut (by kernel_rfl) (of_decide_eq_true (by kernel_rfl)) h1 bel lt1) (trodAll_cons_mk (Below.trod laidOut (by kernel_rfl) (of_decide_eq_true (by kernel_rfl)) h2 bel lt2) trodAll_mk0))), rfl, bel.frame _, fun h => by cases h⟩
theorem over : Rows.globMatchesUptoRow.holds Try.pinned (Rows.OpenSpec.upto Rows.globMatchesSpec) :=
  OpenClaim.holds_of_cond 11 Try.f11 rfl rfl rfl rfl rfl rfl rfl ⟨rfl, rfl, rfl, rfl, rfl⟩ rfl rfl rfl rfl rfl (by kernel_rfl) Try.func11 (by kernel_rfl)
    (of_decide_eq_true (by kernel_rfl)) (by unfold Func.isWrapper; first | (rw [if_pos (by decide +kernel)]; kernel_rfl) | (rw [if_neg (by decide +kernel)]; exact ⟨rfl, rfl⟩))
    (fun os started H enc _ F => by rw [OpenClaim.pre_eq_preRow]; exact lifted os started H enc F)
end Go.Proofs.Ytioemcfadniokaa.globMatches
namespace Go.Proofs.Ytioemcfadniokaa
theorem globMatches_holds : Rows.GlobMatchesUptoSaid := globMatches.over
#print axioms globMatches_holds
end Go.Proofs.Ytioemcfadniokaa
