/- The law LetterValues answers true at every message and name of small bulk: letter.Values answers as the reference's ValuesOf. -/
import Derived.Test.YtpeenmbonhijmaaDoorCards
import Derived.Test.YtpeenmbonhijmaaDoorTie
import Derived.Test.YtpeenmbonhijmaaDoorOpensU
import Derived.Test.YtpeenmbonhijmaaDoorLaid
import Derived.Test.YtpeenmbonhijmaaDoorBase
import Derived.WalkKit
import Derived.ProofKit
import Derived.OpenShut
import Derived.ShutString
import Derived.ChangeOld
import Derived.Below
import Derived.Carry
import Derived.SevenTiedAt
import Derived.Test.YtpeenmbonhijmaaDoorKinds
import Derived.Test.YtpeenmbonhijmaaDoorLetX
import Derived.Shelf.Vars
namespace Go.Proofs.YtpeenmbonhijmaaDoor.letterValues
open Go.ChangeShapes Go.WideShapes Go.ChangeAt Go.RowKit Go.Proofs.YtpeenmbonhijmaaDoorW.PrintWords Go.Proofs.YtpeenmbonhijmaaDoor.U Go.Proofs.YtpeenmbonhijmaaDoor.UB Go.Proofs.YtpeenmbonhijmaaDoor.H
open Go.ChangeMaps (open_string shut_string)
set_option linter.unusedVariables false
set_option maxRecDepth 100000
theorem own : ownKnob Tryd.prog.godebug = none := by kernel_rfl
theorem laidOut : laidOutB Tryd.prog = true := by kernel_rfl
def okAField (x : AField) : Prop := x.name.size ≤ bulkTop ∧ x.value.size ≤ bulkTop
theorem opens_AField {n : Nat} : OpensN Tryd.prog n 100 kAField okAField := by
  intro H enc W base spare held cs x h hm
  obtain ⟨⟨a0, a1⟩, hk, ⟨h0_, h1_⟩⟩ := (opens_struct Tryd.underlying100 (len := 2) (by kernel_rfl) (fun _ _ => (opensF_cons rfl (by kernel_rfl) (opens_string Tryd.underlying9) (opensF_one rfl (by kernel_rfl) (opens_string Tryd.underlying9))))) enc W base spare held cs x h hm
  obtain ⟨_, _, rfl, rfl, rfl⟩ := hk
  exact ⟨⟨a0, a1⟩, rfl, h0_, h1_⟩
def kMessage : Kd (List AField × ByteArray) := Kd.pair (Kd.slice 100 kAField) Kd.string
theorem opens : Opens Tryd.prog 41 kMessage (fun y => (y.1.length ≤ bulkTop ∧ ∀ b ∈ y.1, okAField b) ∧ y.2.size ≤ bulkTop) := fun n =>
  opens_struct Tryd.underlying41 (len := 2) (by kernel_rfl) (fun m _ => opensF_cons rfl (by kernel_rfl) (opens_slice Tryd.underlying39 (by kernel_rfl) (fun _ _ => opens_AField))
    (opensF_one rfl (by kernel_rfl) (opens_string Tryd.underlying9)))
set_option maxRecDepth 100000 in
theorem lifted (os : Os) (started : os.Started) (H : Type) (enc : TypeId × Value → H) (F : Stop.Interp) :
    ReturnsInHanded {} Tryd.checked os 9 .any ((Rows.OpenSpec.upto Rows.letterValuesSpec).preRow enc Tryd.prog Tryd.f9 Rows.letterValuesUptoRow.domain false Rows.letterValuesUptoRow.laid) (((Rows.OpenSpec.upto Rows.letterValuesSpec).at F).post enc Tryd.prog Tryd.f9 false true false false) := by
  refine returnsInHanded_of_row (C := Tryd.checked) (s := Rows.OpenSpec.upto Rows.letterValuesSpec) own started (by kernel_rfl) Tryd.func9
    (witness_up (enc := enc) (C := Tryd.checked) (s := Rows.OpenSpec.upto Rows.letterValuesSpec) (laid := Rows.letterValuesUptoRow.laid) os #[.agg #[.slice none 0 0, .string ByteArray.empty], .string ByteArray.empty] 8 (World.shaped_of_ZipB (by kernel_rfl) (by kernel_rfl)) (by kernel_rfl) ([.agg [.nil, .lit (.string [])], .lit (.string [])], [], []) (by kernel_rfl) (by kernel_rfl)
      (fun k hk => by cases hk; kernel_rfl) (by kernel_rfl)
      (by rw [MakeChecks.laidMetH_plain _ _ _ (by kernel_rfl)]; exact laidMet_laidAll _ (by kernel_rfl) (by kernel_rfl))) ?_
  intro W base args ds gs before hval0 hW hcnd hcond hsz hL hsh _
  have hk : Rows.uptoSmall H (ds ++ gs) = true := hcond _ rfl
  have hval : ∀ (j : Nat) t v, Tryd.f9.params[j]? = some t → args[j]? = some v → Value.okWide Tryd.prog W .any base t v := hval0
  have hW' := hW
  obtain ⟨p, q, hA0, hV, rfl, hfz, hnd⟩ := hW
  have hA : DataW.TrodAll enc Tryd.prog W 0 (fun _ => true) true Tryd.f9.params.toList args.toList ds p := hA0
  rw [Tryd.params9] at hA hval
  rw [MakeChecks.laidMetH_plain _ _ _ (by kernel_rfl)] at hL
  obtain ⟨ps, hL, hLn, hLc⟩ := hL
  obtain ⟨v0, vs0, d0, ds0, p0, q0, hargs, rfl, rfl, h0, r0⟩ := trodAll_cons hA
  obtain ⟨v1, vs1, d1, ds1, p1, q1, rfl, rfl, rfl, h1, r1⟩ := trodAll_cons r0
  obtain ⟨rfl, rfl, rfl⟩ := trodAll_nil r1
  obtain rfl : args = #[v0, v1] := by cases args; simp_all
  obtain ⟨rfl, rfl⟩ := trodVars_none hV
  have lt0 : ∀ x ∈ p0, x.block < W.heap.size := by obtain ⟨m, hm⟩ := h0; exact DataW.trod_lt m _ _ _ hm
  have lt1 : ∀ x ∈ p1, x.block < W.heap.size := by obtain ⟨m, hm⟩ := h1; exact DataW.trod_lt m _ _ _ hm
  obtain ⟨⟨l, body⟩, cs, rfl, ⟨_, _, hcs, ⟨A, c, rfl, hl, hr⟩, rfl⟩, ⟨⟨hlen, hall⟩, hbody⟩⟩ := arg_struct Tryd.underlying41 (hval 0 _ v0 rfl rfl) h0 (bulk_arg hk (j := 0) rfl) opens
  obtain rfl : cs = #[.slice A l.length c, .string body] := by cases cs; simpa using hcs
  obtain ⟨n, rfl, hn⟩ := arg_string Tryd.underlying9 (hval 1 _ v1 rfl rfl) h1 (bulk_arg hk (j := 1) rfl)
  obtain ⟨m, hm⟩ := cell_of_shapedOpen_int (g := 0) (zero := #[.int .i64 0]) hsh (of_decide_eq_true (by kernel_rfl)) (by kernel_rfl) (by kernel_rfl) (by kernel_rfl) (by kernel_rfl) Tryd.underlying3
  refine (letterValues_walk A c l body n m W hr hlen hall hbody hn hm (lt_of_cell hm)).mono fun e W' ⟨he, bel⟩ => ?_
  subst he
  refine ⟨_, rfl, _, _, _, [], _, [], hW', trodAll_mk1 (shut_bool Tryd.underlying4 _), (trodAll_cons_mk (Below.trod laidOut (by kernel_rfl) (of_decide_eq_true (by kernel_rfl)) h0 bel lt0) (trodAll_cons_mk (Below.trod laidOut (by kernel_rfl) (of_decide_eq_true (by kernel_rfl)) h1 bel lt1) trodAll_mk0)), rfl, bel.frame _, fun h => by cases h⟩
theorem over : Rows.letterValuesUptoRow.holds Tryd.pinned (Rows.OpenSpec.upto Rows.letterValuesSpec) :=
  OpenClaim.holds_of_cond 9 Tryd.f9 rfl rfl rfl rfl rfl rfl rfl ⟨rfl, rfl, rfl, rfl, rfl⟩ rfl rfl rfl rfl rfl (by kernel_rfl) Tryd.func9 (by kernel_rfl)
    (of_decide_eq_true (by kernel_rfl)) (by unfold Func.isWrapper; first | (rw [if_pos (by decide +kernel)]; kernel_rfl) | (rw [if_neg (by decide +kernel)]; exact ⟨rfl, rfl⟩))
    (fun os started H enc _ F => by rw [OpenClaim.pre_eq_preRow]; exact lifted os started H enc F)
theorem card : Rows.LetterValuesUptoCardSaid :=
  Claim7.holds_tied_plain_at .later [] _ _ _ _ over (fun _ h => by cases h) (by kernel_rfl) (fun _ h => by cases h) letterValuesUpto_row_tie rfl ⟨rfl, rfl⟩ (by kernel_rfl) rfl
    (fun f fn hf hfn => by
      obtain rfl : f = 9 := Option.some.inj ((show Tryd.prog.funcNamed "postroom/postroomlaw.LetterValues" = some 9 by kernel_rfl).symm.trans hf) |>.symm
      obtain rfl : fn = Tryd.f9 := (Option.some.inj (Tryd.func9.symm.trans hfn)).symm
      exact ⟨by kernel_rfl, fun j t ht => by
        have hm : t ∈ Tryd.f9.params.toList := by simpa using Array.mem_of_getElem? ht
        have hall : (Tryd.f9.params.toList.all fun u => !Tryd.prog.wantsStandIn u) = true := by kernel_rfl
        exact (show Tryd.prog.wantsStandIn t = false by simpa using List.all_eq_true.1 hall t hm)⟩)
    (by kernel_rfl)
end Go.Proofs.YtpeenmbonhijmaaDoor.letterValues
namespace Go.Proofs.YtpeenmbonhijmaaDoor
theorem letterValues_holds : Rows.LetterValuesUptoCardSaid := letterValues.card
#print axioms letterValues_holds
end Go.Proofs.YtpeenmbonhijmaaDoor
