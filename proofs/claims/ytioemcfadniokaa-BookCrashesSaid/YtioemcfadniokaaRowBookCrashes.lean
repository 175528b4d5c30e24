/- The law BookCrashes answers true at every tape and number: book.Crash answers as the reference's TapeCrashed, and changes no argument. Conditions: none beside the reach. -/
import Derived.Test.YtioemcfadniokaaRows
import Derived.Test.YtioemcfadniokaaOpens
import Derived.WalkKit
import Derived.ProofKit
import Derived.OpenShut
import Derived.ShutString
import Derived.ChangeOld
import Derived.Below
import Derived.SizedLaws
import Derived.Carry
import Derived.Test.YtioemcfadniokaaTapeC
namespace Go.Proofs.Ytioemcfadniokaa.bookCrashes
open Go.ChangeShapes Go.WideShapes Go.ChangeAt Go.RowKit Go.Proofs.YtioemcfadniokaaW.PrintWords Go.Proofs.Ytioemcfadniokaa.U Go.Proofs.Ytioemcfadniokaa.H
open Go.ChangeMaps (open_string shut_string)
set_option linter.unusedVariables false
set_option maxRecDepth 100000
theorem own : ownKnob Try.prog.godebug = none := by kernel_rfl
theorem laidOut : laidOutB Try.prog = true := by kernel_rfl
def kTape : Kd (List Int × Int) := Kd.pair (Kd.slice 5 (Kd.int .u8)) (Kd.int .i64)
theorem opens : Opens Try.prog 32 kTape (fun y => (y.1.length * 1 ≤ reachBytes ∧ ∀ b ∈ y.1, (Lit.int .u8 b).wf = true) ∧ (Lit.int .i64 y.2).wf = true) := fun n =>
  opens_struct Try.underlying32 (len := 2) (by kernel_rfl) (fun m _ => opensF_cons rfl (by kernel_rfl) (opens_slice Try.underlying30 (by kernel_rfl) (fun _ _ => opens_int Try.underlying5)) (opensF_one rfl (by kernel_rfl) (opens_int Try.underlying3)))
set_option maxRecDepth 100000 in
theorem lifted (os : Os) (started : os.Started) (H : Type) (enc : TypeId × Value → H) :
    ReturnsInHanded {} Try.checked os 7 .any (Rows.bookCrashesSpec.pre6 enc Try.prog Try.f7 Rows.bookCrashesRow.domain false) (Rows.bookCrashesSpec.post enc Try.prog Try.f7 false true false false) := by
  refine returnsInHanded_of_change_sized (C := Try.checked) own started (by kernel_rfl) Try.func7
    (ChangeSpec.witness6 (enc := enc) (C := Try.checked) false ⟨#[], #[.agg #[.slice none 0 0, .int .i64 0], .int .i64 0], []⟩ 8 (by kernel_rfl) (by kernel_rfl) (by kernel_rfl) (by kernel_rfl)) ?_
  intro W base args ds gs before hval0 hW hcnd hsz0 _
  have hsz : (DataW.weightsEach Try.prog (Try.f7.params.toList ++ Rows.bookCrashesSpec.plain.varTypes Try.prog) (ds ++ gs)).all (· ≤ reachBytes) = true := hsz0
  have hval : ∀ (j : Nat) t v, Try.f7.params[j]? = some t → args[j]? = some v → Value.okWide Try.prog W .any base t v := hval0
  have hW' := hW
  obtain ⟨p, q, hA0, hV, rfl, hfz, hnd⟩ := hW
  have hA : DataW.TrodAll enc Try.prog W 0 (fun _ => true) true Try.f7.params.toList args.toList ds p := hA0
  rw [Try.params7] at hA hval hsz
  obtain ⟨v0, vs0, d0, ds0, p0, q0, hargs, rfl, rfl, h0, r0⟩ := trodAll_cons hA
  obtain ⟨v1, vs1, d1, ds1, p1, q1, rfl, rfl, rfl, h1, r1⟩ := trodAll_cons r0
  obtain ⟨rfl, rfl, rfl⟩ := trodAll_nil r1
  obtain rfl : args = #[v0, v1] := by cases args; simp_all
  obtain ⟨rfl, rfl⟩ := trodVars_none hV
  have lt0 : ∀ x ∈ p0, x.block < W.heap.size := by obtain ⟨m, hm⟩ := h0; exact DataW.trod_lt m _ _ _ hm
  have lt1 : ∀ x ∈ p1, x.block < W.heap.size := by obtain ⟨m, hm⟩ := h1; exact DataW.trod_lt m _ _ _ hm
  obtain ⟨⟨l, s⟩, cs, rfl, ⟨c0, c1, hcs, ⟨A, c, rfl, hl, hr⟩, rfl⟩, ⟨hlen, _⟩, hs⟩ := arg_struct Try.underlying32 (hval 0 _ v0 rfl rfl) h0 (sized_arg hsz (j := 0) rfl rfl) opens
  obtain rfl : cs = #[.slice A l.length c, .int .i64 s] := by cases cs; simpa using hcs
  have g1 := h1
  obtain ⟨k, rfl, rfl, rfl, wk⟩ := open_int Try.underlying3 (hval 1 _ v1 rfl rfl) h1
  refine (bookCrashes_walk A c l s k W hr hl (by simpa [reachBytes] using hlen) (by have := bounds_i64 wk; omega)).mono fun e W' ⟨he, bel⟩ => ?_
  subst he
  refine ⟨_, rfl, _, _, _, [], _, [], hW', trodAll_mk1 (shut_bool Try.underlying4 _), (trodAll_cons_mk (Below.trod laidOut (by kernel_rfl) (of_decide_eq_true (by kernel_rfl)) h0 bel lt0) (trodAll_cons_mk (Below.trod laidOut (by kernel_rfl) (of_decide_eq_true (by kernel_rfl)) h1 bel lt1) trodAll_mk0)), rfl, bel.frame _, fun h => by cases h⟩
theorem over : Rows.bookCrashesRow.holds Try.pinned (OpenSpec.ofChange Rows.bookCrashesSpec) :=
  OpenClaim.holds_of_wide 7 Try.f7 rfl rfl rfl rfl rfl rfl rfl ⟨rfl, rfl, rfl, rfl, rfl⟩ rfl rfl rfl rfl rfl (by kernel_rfl) Try.func7 (by kernel_rfl)
    (of_decide_eq_true (by kernel_rfl)) (by unfold Func.isWrapper; first | (rw [if_pos (by decide +kernel)]; kernel_rfl) | (rw [if_neg (by decide +kernel)]; exact ⟨rfl, rfl⟩))
    (fun os started H enc _ => lifted os started H enc)
end Go.Proofs.Ytioemcfadniokaa.bookCrashes
namespace Go.Proofs.Ytioemcfadniokaa
theorem bookCrashes_holds : Rows.BookCrashesSaid := bookCrashes.over
#print axioms bookCrashes_holds
end Go.Proofs.Ytioemcfadniokaa
