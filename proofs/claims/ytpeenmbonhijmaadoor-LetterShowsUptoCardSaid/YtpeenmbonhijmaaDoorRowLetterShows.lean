/- The law LetterShows answers true at every message of small bulk: letter.Show answers as the reference's MessageShown. -/
import Derived.Test.YtpeenmbonhijmaaDoorCards
import Derived.Test.YtpeenmbonhijmaaDoorTie
import Derived.Test.YtpeenmbonhijmaaDoorOpensU
import Derived.Test.YtpeenmbonhijmaaDoorLaid
import Derived.Test.YtpeenmbonhijmaaDoorBase
import Derived.WalkKit
import Derived.ProofKit
import Derived.OpenShut
import Derived.ShutString
import Derived.ChangeOld
import Derived.Below
import Derived.Carry
import Derived.SevenTiedAt
import Derived.Test.YtpeenmbonhijmaaDoorKinds
import Derived.Test.YtpeenmbonhijmaaDoorLetH
import Derived.Shelf.Vars
namespace Go.Proofs.YtpeenmbonhijmaaDoor.letterShows
open Go.ChangeShapes Go.WideShapes Go.ChangeAt Go.RowKit Go.Proofs.YtpeenmbonhijmaaDoorW.PrintWords Go.Proofs.YtpeenmbonhijmaaDoor.U Go.Proofs.YtpeenmbonhijmaaDoor.UB Go.Proofs.YtpeenmbonhijmaaDoor.H
open Go.ChangeMaps (open_string shut_string)
set_option linter.unusedVariables false
set_option maxRecDepth 100000
theorem own : ownKnob Tryd.prog.godebug = none := by kernel_rfl
theorem laidOut : laidOutB Tryd.prog = true := by kernel_rfl
def okAField (x : AField) : Prop := x.name.size ≤ bulkTop ∧ x.value.size ≤ bulkTop
theorem opens_AField {n : Nat} : OpensN Tryd.prog n 100 kAField okAField := by
  intro H enc W base spare held cs x h hm
  obtain ⟨⟨a0, a1⟩, hk, ⟨h0_, h1_⟩⟩ := (opens_struct Tryd.underlying100 (len := 2) (by kernel_rfl) (fun _ _ => (opensF_cons rfl (by kernel_rfl) (opens_string Tryd.underlying9) (opensF_one rfl (by kernel_rfl) (opens_string Tryd.underlying9))))) enc W base spare held cs x h hm
  obtain ⟨_, _, rfl, rfl, rfl⟩ := hk
  exact ⟨⟨a0, a1⟩, rfl, h0_, h1_⟩
def kMessage : Kd (List AField × ByteArray) := Kd.pair (Kd.slice 100 kAField) Kd.string
theorem opens : Opens Tryd.prog 41 kMessage (fun y => (y.1.length ≤ bulkTop ∧ ∀ b ∈ y.1, okAField b) ∧ y.2.size ≤ bulkTop) := fun n =>
  opens_struct Tryd.underlying41 (len := 2) (by kernel_rfl) (fun m _ => opensF_cons rfl (by kernel_rfl) (opens_slice Tryd.underlying39 (by kernel_rfl) (fun _ _ => opens_AField))
    (opensF_one rfl (by kernel_rfl) (opens_string Tryd.underlying9)))
set_option maxRecDepth 100000 in
theorem lifted (os : Os) (started : os.Started) (H : Type) (enc : TypeId × Value → H) (F : Stop.Interp) :
    ReturnsInHanded {} Tryd.checked os 8 .any ((Rows.OpenSpec.upto Rows.letterShowsSpec).preRow enc Tryd.prog Tryd.f8 Rows.letterShowsUptoRow.domain false Rows.letterShowsUptoRow.laid) (((Rows.OpenSpec.upto Rows.letterShowsSpec).at F).post enc Tryd.prog Tryd.f8 false true false false) := by
  refine returnsInHanded_of_row (C := Tryd.checked) (s := Rows.OpenSpec.upto Rows.letterShowsSpec) own started (by kernel_rfl) Tryd.func8
    (witness_up (enc := enc) (C := Tryd.checked) (s := Rows.OpenSpec.upto Rows.letterShowsSpec) (laid := Rows.letterShowsUptoRow.laid) os #[.agg #[.slice none 0 0, .string ByteArray.empty]] 8 (World.shaped_of_ZipB (by kernel_rfl) (by kernel_rfl)) (by kernel_rfl) ([.agg [.nil, .lit (.string [])]], [], []) (by kernel_rfl) (by kernel_rfl)
      (fun k hk => by cases hk; kernel_rfl) (by kernel_rfl)
      (by rw [MakeChecks.laidMetH_plain _ _ _ (by kernel_rfl)]; exact laidMet_laidAll _ (by kernel_rfl) (by kernel_rfl))) ?_
  intro W base args ds gs before hval0 hW hcnd hcond hsz hL hsh _
  have hk : Rows.uptoSmall H (ds ++ gs) = true := hcond _ rfl
  have hval : ∀ (j : Nat) t v, Tryd.f8.params[j]? = some t → args[j]? = some v → Value.okWide Tryd.prog W .any base t v := hval0
  have hW' := hW
  obtain ⟨p, q, hA0, hV, rfl, hfz, hnd⟩ := hW
  have hA : DataW.TrodAll enc Tryd.prog W 0 (fun _ => true) true Tryd.f8.params.toList args.toList ds p := hA0
  rw [Tryd.params8] at hA hval
  rw [MakeChecks.laidMetH_plain _ _ _ (by kernel_rfl)] at hL
  obtain ⟨ps, hL, hLn, hLc⟩ := hL
  obtain ⟨v0, vs0, d0, ds0, p0, q0, hargs, rfl, rfl, h0, r0⟩ := trodAll_cons hA
  obtain ⟨rfl, rfl, rfl⟩ := trodAll_nil r0
  obtain rfl : args = #[v0] := by cases args; simp_all
  obtain ⟨rfl, rfl⟩ := trodVars_none hV
  have lt0 : ∀ x ∈ p0, x.block < W.heap.size := by obtain ⟨m, hm⟩ := h0; exact DataW.trod_lt m _ _ _ hm
  obtain ⟨⟨l, body⟩, cs, rfl, ⟨_, _, hcs, ⟨A, c, rfl, hl, hr⟩, rfl⟩, ⟨⟨hlen, hall⟩, hbody⟩⟩ := arg_struct Tryd.underlying41 (hval 0 _ v0 rfl rfl) h0 (bulk_arg hk (j := 0) rfl) opens
  obtain rfl : cs = #[.slice A l.length c, .string body] := by cases cs; simpa using hcs
  obtain ⟨m, hm⟩ := cell_of_shapedOpen_int (g := 0) (zero := #[.int .i64 0]) hsh (of_decide_eq_true (by kernel_rfl)) (by kernel_rfl) (by kernel_rfl) (by kernel_rfl) (by kernel_rfl) Tryd.underlying3
  refine (letterShows_walk A c l body m W hr hlen hall hbody hm (lt_of_cell hm)).mono fun e W' ⟨he, bel⟩ => ?_
  subst he
  refine ⟨_, rfl, _, _, _, [], _, [], hW', trodAll_mk1 (shut_bool Tryd.underlying4 _), (trodAll_cons_mk (Below.trod laidOut (by kernel_rfl) (of_decide_eq_true (by kernel_rfl)) h0 bel lt0) trodAll_mk0), rfl, bel.frame _, fun h => by cases h⟩
theorem over : Rows.letterShowsUptoRow.holds Tryd.pinned (Rows.OpenSpec.upto Rows.letterShowsSpec) :=
  OpenClaim.holds_of_cond 8 Tryd.f8 rfl rfl rfl rfl rfl rfl rfl ⟨rfl, rfl, rfl, rfl, rfl⟩ rfl rfl rfl rfl rfl (by kernel_rfl) Tryd.func8 (by kernel_rfl)
    (of_decide_eq_true (by kernel_rfl)) (by unfold Func.isWrapper; first | (rw [if_pos (by decide +kernel)]; kernel_rfl) | (rw [if_neg (by decide +kernel)]; exact ⟨rfl, rfl⟩))
    (fun os started H enc _ F => by rw [OpenClaim.pre_eq_preRow]; exact lifted os started H enc F)
theorem card : Rows.LetterShowsUptoCardSaid :=
  Claim7.holds_tied_plain_at .later [] _ _ _ _ over (fun _ h => by cases h) (by kernel_rfl) (fun _ h => by cases h) letterShowsUpto_row_tie rfl ⟨rfl, rfl⟩ (by kernel_rfl) rfl
    (fun f fn hf hfn => by
      obtain rfl : f = 8 := Option.some.inj ((show Tryd.prog.funcNamed "postroom/postroomlaw.LetterShows" = some 8 by kernel_rfl).symm.trans hf) |>.symm
      obtain rfl : fn = Tryd.f8 := (Option.some.inj (Tryd.func8.symm.trans hfn)).symm
      exact ⟨by kernel_rfl, fun j t ht => by
        have hm : t ∈ Tryd.f8.params.toList := by simpa using Array.mem_of_getElem? ht
        have hall : (Tryd.f8.params.toList.all fun u => !Tryd.prog.wantsStandIn u) = true := by kernel_rfl
        exact (show Tryd.prog.wantsStandIn t = false by simpa using List.all_eq_true.1 hall t hm)⟩)
    (by kernel_rfl)
end Go.Proofs.YtpeenmbonhijmaaDoor.letterShows
namespace Go.Proofs.YtpeenmbonhijmaaDoor
theorem letterShows_holds : Rows.LetterShowsUptoCardSaid := letterShows.card
#print axioms letterShows_holds
end Go.Proofs.YtpeenmbonhijmaaDoor
