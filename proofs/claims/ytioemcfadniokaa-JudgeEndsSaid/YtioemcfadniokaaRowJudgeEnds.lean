/- The law JudgeEnds answers true at every course: judge.End answers as the reference's Ended. Conditions: none beside the reach. -/
import Derived.Test.YtioemcfadniokaaRows
import Derived.Test.YtioemcfadniokaaOpens
import Derived.WalkKit
import Derived.ProofKit
import Derived.OpenShut
import Derived.ShutString
import Derived.ChangeOld
import Derived.Below
import Derived.SizedLaws
import Derived.Carry
import Derived.Test.YtioemcfadniokaaEndB
namespace Go.Proofs.Ytioemcfadniokaa.judgeEnds
open Go.ChangeShapes Go.WideShapes Go.ChangeAt Go.RowKit Go.Proofs.YtioemcfadniokaaW.PrintWords Go.Proofs.Ytioemcfadniokaa.U Go.Proofs.Ytioemcfadniokaa.H
open Go.ChangeMaps (open_string shut_string)
set_option linter.unusedVariables false
set_option maxRecDepth 100000
theorem own : ownKnob Try.prog.godebug = none := by kernel_rfl
theorem laidOut : laidOutB Try.prog = true := by kernel_rfl
def okAAction (x : AAction) : Prop := (Lit.int .i64 x.kind).wf = true ∧ x.text.size ≤ reachBytes ∧ (Lit.int .i64 x.flags).wf = true
theorem opens_AAction {n : Nat} : OpensN Try.prog n 73 kAAction okAAction := by
  intro H enc W base spare held cs x h hm
  obtain ⟨⟨a0, a1, a2⟩, hk, ⟨h0_, h1_, h2_⟩⟩ := (opens_struct Try.underlying73 (len := 3) (by kernel_rfl) (fun _ _ => (opensF_cons rfl (by kernel_rfl) (opens_int Try.underlying3) (opensF_cons rfl (by kernel_rfl) (opens_string Try.underlying9) (opensF_one rfl (by kernel_rfl) (opens_int Try.underlying3)))))) enc W base spare held cs x h hm
  obtain ⟨_, _, rfl, rfl, ⟨_, _, rfl, rfl, rfl⟩⟩ := hk
  exact ⟨⟨a0, a1, a2⟩, rfl, h0_, h1_, h2_⟩
def kCourse : Kd (List AAction × Int × Bool × Int) := Kd.pair (Kd.slice 73 kAAction) (Kd.pair (Kd.int .i64) (Kd.pair Kd.bool (Kd.int .i64)))
theorem opens : Opens Try.prog 42 kCourse (fun y => (y.1.length * 32 ≤ reachBytes ∧ ∀ b ∈ y.1, okAAction b) ∧ (Lit.int .i64 y.2.1).wf = true ∧ True ∧ (Lit.int .i64 y.2.2.2).wf = true) := fun n =>
  opens_struct Try.underlying42 (len := 4) (by kernel_rfl) (fun m _ => opensF_cons rfl (by kernel_rfl) (opens_slice Try.underlying40 (by kernel_rfl) (fun _ _ => opens_AAction))
    (opensF_cons rfl (by kernel_rfl) (opens_int Try.underlying3) (opensF_cons rfl (by kernel_rfl) (opens_bool Try.underlying4) (opensF_one rfl (by kernel_rfl) (opens_int Try.underlying22)))))
set_option maxRecDepth 100000 in
theorem lifted (os : Os) (started : os.Started) (H : Type) (enc : TypeId × Value → H) :
    ReturnsInHanded {} Try.checked os 8 .any (Rows.judgeEndsSpec.pre6 enc Try.prog Try.f8 Rows.judgeEndsRow.domain false) (Rows.judgeEndsSpec.post enc Try.prog Try.f8 false true false false) := by
  refine returnsInHanded_of_change_sized (C := Try.checked) own started (by kernel_rfl) Try.func8
    (ChangeSpec.witness6 (enc := enc) (C := Try.checked) false ⟨#[], #[.agg #[.slice none 0 0, .int .i64 0, .bool false, .int .i64 0]], []⟩ 8 (by kernel_rfl) (by kernel_rfl) (by kernel_rfl) (by kernel_rfl)) ?_
  intro W base args ds gs before hval0 hW hcnd hsz0 _
  have hsz : (DataW.weightsEach Try.prog (Try.f8.params.toList ++ Rows.judgeEndsSpec.plain.varTypes Try.prog) (ds ++ gs)).all (· ≤ reachBytes) = true := hsz0
  have hval : ∀ (j : Nat) t v, Try.f8.params[j]? = some t → args[j]? = some v → Value.okWide Try.prog W .any base t v := hval0
  have hW' := hW
  obtain ⟨p, q, hA0, hV, rfl, hfz, hnd⟩ := hW
  have hA : DataW.TrodAll enc Try.prog W 0 (fun _ => true) true Try.f8.params.toList args.toList ds p := hA0
  rw [Try.params8] at hA hval hsz
  obtain ⟨v0, vs0, d0, ds0, p0, q0, hargs, rfl, rfl, h0, r0⟩ := trodAll_cons hA
  obtain ⟨rfl, rfl, rfl⟩ := trodAll_nil r0
  obtain rfl : args = #[v0] := by cases args; simp_all
  obtain ⟨rfl, rfl⟩ := trodVars_none hV
  have lt0 : ∀ x ∈ p0, x.block < W.heap.size := by obtain ⟨m, hm⟩ := h0; exact DataW.trod_lt m _ _ _ hm
  obtain ⟨⟨l, f, a, u⟩, cs, rfl, ⟨_, _, hcs, ⟨A, c, rfl, hl, hr⟩, ⟨_, _, rfl, rfl, ⟨_, _, rfl, rfl, rfl⟩⟩⟩, ⟨hlen, _⟩, _⟩ := arg_struct Try.underlying42 (hval 0 _ v0 rfl rfl) h0 (sized_arg hsz (j := 0) rfl rfl) opens
  obtain rfl : cs = #[.slice A l.length c, .int .i64 f, .bool a, .int .i64 u] := by cases cs; simpa using hcs
  refine (judgeEnds_walk A c l f a u W hr (by simpa [reachBytes] using hlen)).mono fun e W' ⟨he, bel⟩ => ?_
  subst he
  refine ⟨_, rfl, _, _, _, [], _, [], hW', trodAll_mk1 (shut_bool Try.underlying4 _), (trodAll_cons_mk (Below.trod laidOut (by kernel_rfl) (of_decide_eq_true (by kernel_rfl)) h0 bel lt0) trodAll_mk0), rfl, bel.frame _, fun h => by cases h⟩
theorem over : Rows.judgeEndsRow.holds Try.pinned (OpenSpec.ofChange Rows.judgeEndsSpec) :=
  OpenClaim.holds_of_wide 8 Try.f8 rfl rfl rfl rfl rfl rfl rfl ⟨rfl, rfl, rfl, rfl, rfl⟩ rfl rfl rfl rfl rfl (by kernel_rfl) Try.func8 (by kernel_rfl)
    (of_decide_eq_true (by kernel_rfl)) (by unfold Func.isWrapper; first | (rw [if_pos (by decide +kernel)]; kernel_rfl) | (rw [if_neg (by decide +kernel)]; exact ⟨rfl, rfl⟩))
    (fun os started H enc _ => lifted os started H enc)
end Go.Proofs.Ytioemcfadniokaa.judgeEnds
namespace Go.Proofs.Ytioemcfadniokaa
theorem judgeEnds_holds : Rows.JudgeEndsSaid := judgeEnds.over
#print axioms judgeEnds_holds
end Go.Proofs.Ytioemcfadniokaa
