/- The law PostChecks answers true at every act: post.Check answers as the reference's ActFault. Conditions: none beside the reach. -/
import Derived.Test.YtioemcfadniokaaRows
import Derived.Test.YtioemcfadniokaaOpens
import Derived.WalkKit
import Derived.ProofKit
import Derived.OpenShut
import Derived.ShutString
import Derived.ChangeOld
import Derived.Below
import Derived.SizedLaws
import Derived.Carry
import Derived.Test.YtioemcfadniokaaPostA
namespace Go.Proofs.Ytioemcfadniokaa.postChecks
open Go.ChangeShapes Go.WideShapes Go.ChangeAt Go.RowKit Go.Proofs.YtioemcfadniokaaW.PrintWords Go.Proofs.Ytioemcfadniokaa.U Go.Proofs.Ytioemcfadniokaa.H
open Go.ChangeMaps (open_string shut_string)
set_option linter.unusedVariables false
set_option maxRecDepth 100000
theorem own : ownKnob Try.prog.godebug = none := by kernel_rfl
theorem laidOut : laidOutB Try.prog = true := by kernel_rfl
def okAEntry (x : AEntry) : Prop := (Lit.int .i64 x.kind).wf = true ∧ x.box.size ≤ reachBytes ∧ (Lit.int .i64 x.uid).wf = true ∧ (Lit.int .i64 x.flags).wf = true ∧ x.to_.size ≤ reachBytes ∧ x.text.size ≤ reachBytes
theorem opens_AEntry {n : Nat} : OpensN Try.prog n 49 kAEntry okAEntry := by
  intro H enc W base spare held cs x h hm
  obtain ⟨⟨a0, a1, a2, a3, a4, a5⟩, hk, ⟨h0_, h1_, h2_, h3_, h4_, h5_⟩⟩ := (opens_struct Try.underlying49 (len := 6) (by kernel_rfl) (fun _ _ => (opensF_cons rfl (by kernel_rfl) (opens_int Try.underlying3) (opensF_cons rfl (by kernel_rfl) (opens_string Try.underlying9) (opensF_cons rfl (by kernel_rfl) (opens_int Try.underlying3) (opensF_cons rfl (by kernel_rfl) (opens_int Try.underlying3) (opensF_cons rfl (by kernel_rfl) (opens_string Try.underlying9) (opensF_one rfl (by kernel_rfl) (opens_string Try.underlying9))))))))) enc W base spare held cs x h hm
  obtain ⟨_, _, rfl, rfl, ⟨_, _, rfl, rfl, ⟨_, _, rfl, rfl, ⟨_, _, rfl, rfl, ⟨_, _, rfl, rfl, rfl⟩⟩⟩⟩⟩ := hk
  exact ⟨⟨a0, a1, a2, a3, a4, a5⟩, rfl, h0_, h1_, h2_, h3_, h4_, h5_⟩
def okAAct (x : AAct) : Prop := (Lit.int .i64 x.kind).wf = true ∧ (Lit.int .i64 x.conn).wf = true ∧ (Lit.int .i64 x.user).wf = true ∧ (Lit.int .i64 x.keep).wf = true ∧ x.data.size ≤ reachBytes ∧ (Lit.int .i64 x.entry.kind).wf = true ∧ x.entry.box.size ≤ reachBytes ∧ (Lit.int .i64 x.entry.uid).wf = true ∧ (Lit.int .i64 x.entry.flags).wf = true ∧ x.entry.to_.size ≤ reachBytes ∧ x.entry.text.size ≤ reachBytes
theorem opens_AAct {n : Nat} : OpensN Try.prog n 51 kAAct okAAct := by
  intro H enc W base spare held cs x h hm
  obtain ⟨⟨a0, a1, a2, a3, a4, a5⟩, hk, ⟨h0_, h1_, h2_, h3_, h4_, h5_⟩⟩ := (opens_struct Try.underlying51 (len := 11) (by kernel_rfl) (fun _ _ => (opensF_cons rfl (by kernel_rfl) (opens_int Try.underlying3) (opensF_cons rfl (by kernel_rfl) (opens_int Try.underlying3) (opensF_cons rfl (by kernel_rfl) (opens_int Try.underlying3) (opensF_cons rfl (by kernel_rfl) (opens_int Try.underlying3) (opensF_cons rfl (by kernel_rfl) (opens_string Try.underlying9) (opensF_one rfl (by kernel_rfl) opens_AEntry)))))))) enc W base spare held cs x h hm
  obtain ⟨_, _, rfl, rfl, ⟨_, _, rfl, rfl, ⟨_, _, rfl, rfl, ⟨_, _, rfl, rfl, ⟨_, _, rfl, rfl, rfl⟩⟩⟩⟩⟩ := hk
  exact ⟨⟨a0, a1, a2, a3, a4, a5⟩, rfl, h0_, h1_, h2_, h3_, h4_, h5_.1, h5_.2.1, h5_.2.2.1, h5_.2.2.2.1, h5_.2.2.2.2.1, h5_.2.2.2.2.2⟩
set_option maxRecDepth 100000 in
theorem lifted (os : Os) (started : os.Started) (H : Type) (enc : TypeId × Value → H) :
    ReturnsInHanded {} Try.checked os 9 .any (Rows.postChecksSpec.pre6 enc Try.prog Try.f9 Rows.postChecksRow.domain false) (Rows.postChecksSpec.post enc Try.prog Try.f9 false true false false) := by
  refine returnsInHanded_of_change_sized (C := Try.checked) own started (by kernel_rfl) Try.func9
    (ChangeSpec.witness6 (enc := enc) (C := Try.checked) false ⟨#[], #[.agg #[.int .i64 0, .int .i64 0, .int .i64 0, .int .i64 0, .string ⟨#[]⟩, .int .i64 0, .string ⟨#[]⟩, .int .i64 0, .int .i64 0, .string ⟨#[]⟩, .string ⟨#[]⟩]], []⟩ 8 (by kernel_rfl) (by kernel_rfl) (by kernel_rfl) (by kernel_rfl)) ?_
  intro W base args ds gs before hval0 hW hcnd hsz0 _
  have hsz : (DataW.weightsEach Try.prog (Try.f9.params.toList ++ Rows.postChecksSpec.plain.varTypes Try.prog) (ds ++ gs)).all (· ≤ reachBytes) = true := hsz0
  have hval : ∀ (j : Nat) t v, Try.f9.params[j]? = some t → args[j]? = some v → Value.okWide Try.prog W .any base t v := hval0
  have hW' := hW
  obtain ⟨p, q, hA0, hV, rfl, hfz, hnd⟩ := hW
  have hA : DataW.TrodAll enc Try.prog W 0 (fun _ => true) true Try.f9.params.toList args.toList ds p := hA0
  rw [Try.params9] at hA hval hsz
  obtain ⟨v0, vs0, d0, ds0, p0, q0, hargs, rfl, rfl, h0, r0⟩ := trodAll_cons hA
  obtain ⟨rfl, rfl, rfl⟩ := trodAll_nil r0
  obtain rfl : args = #[v0] := by cases args; simp_all
  obtain ⟨rfl, rfl⟩ := trodVars_none hV
  have lt0 : ∀ x ∈ p0, x.block < W.heap.size := by obtain ⟨m, hm⟩ := h0; exact DataW.trod_lt m _ _ _ hm
  obtain ⟨a, cs, rfl, hk, hok⟩ := arg_struct Try.underlying51 (hval 0 _ v0 rfl rfl) h0 (sized_arg hsz (j := 0) rfl rfl) (fun _ => opens_AAct)
  obtain rfl : cs = a.enc.toArray := by cases cs; have hk' := hk; simp only at hk'; simpa [kAAct, flatKd] using hk'
  refine (postChecks_walk a W (by have := hok.2.2.2.2.1; simpa [reachBytes] using this)).mono fun e W' ⟨he, bel⟩ => ?_
  subst he
  refine ⟨_, rfl, _, _, _, [], _, [], hW', trodAll_mk1 (shut_bool Try.underlying4 _), (trodAll_cons_mk (Below.trod laidOut (by kernel_rfl) (of_decide_eq_true (by kernel_rfl)) h0 bel lt0) trodAll_mk0), rfl, bel.frame _, fun h => by cases h⟩
theorem over : Rows.postChecksRow.holds Try.pinned (OpenSpec.ofChange Rows.postChecksSpec) :=
  OpenClaim.holds_of_wide 9 Try.f9 rfl rfl rfl rfl rfl rfl rfl ⟨rfl, rfl, rfl, rfl, rfl⟩ rfl rfl rfl rfl rfl (by kernel_rfl) Try.func9 (by kernel_rfl)
    (of_decide_eq_true (by kernel_rfl)) (by unfold Func.isWrapper; first | (rw [if_pos (by decide +kernel)]; kernel_rfl) | (rw [if_neg (by decide +kernel)]; exact ⟨rfl, rfl⟩))
    (fun os started H enc _ => lifted os started H enc)
end Go.Proofs.Ytioemcfadniokaa.postChecks
namespace Go.Proofs.Ytioemcfadniokaa
theorem postChecks_holds : Rows.PostChecksSaid := postChecks.over
#print axioms postChecks_holds
end Go.Proofs.Ytioemcfadniokaa
