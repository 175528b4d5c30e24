/- The law BookDecodes answers true at every slice of bytes of small bulk: book.Decode answers as the reference's BatchOf. -/
import Derived.Test.YtdffojjimoilgaaDoorCards
import Derived.Test.YtdffojjimoilgaaDoorTie
import Derived.Test.YtdffojjimoilgaaDoorOpensU
import Derived.Test.YtdffojjimoilgaaDoorLaid
import Derived.Test.YtdffojjimoilgaaDoorBase
import Derived.WalkKit
import Derived.ProofKit
import Derived.OpenShut
import Derived.ShutString
import Derived.ChangeOld
import Derived.Below
import Derived.Carry
import Derived.SevenTiedAt
import Derived.Test.YtdffojjimoilgaaDoorKinds
import Derived.Test.YtdffojjimoilgaaDoorDecD
import Derived.Test.YtdffojjimoilgaaDoorBatchA
import Derived.Shelf.Vars
namespace Go.Proofs.YtdffojjimoilgaaDoor.H
open Go.RowKit Go.Proofs.YtdffojjimoilgaaDoorW.PrintWords Go.Proofs.YtdffojjimoilgaaDoorW.PrintLast Go.Proofs.YtdffojjimoilgaaDoorW.PrintMore Go.Proofs.YtdffojjimoilgaaDoor.U
set_option linter.unusedVariables false
set_option linter.unusedSimpArgs false
theorem u8_wf {b : Int} (h : (Lit.int .u8 b).wf = true) : 0 ≤ b ∧ b ≤ 255 := by
  have h2 : (decide (IntKind.u8.min ≤ b) && decide (b ≤ IntKind.u8.max)) = true := h
  rw [Bool.and_eq_true, decide_eq_true_eq, decide_eq_true_eq] at h2
  exact h2
set_option maxHeartbeats 1000000 in
set_option maxRecDepth 100000 in
theorem bookDecodes_walk (A : Option Addr) (c : Nat) (bs : List Int) (m : Int) (w : World) (hr : Kd.C (Kd.int .u8) w A bs.length bs) (hc : bs.length ≤ c) (hl : bs.length ≤ 1048576) (hby : ∀ x ∈ bs, 0 ≤ x ∧ x ≤ 255)
    (hm : w.cell? ⟨0, 0, none⟩ = some (.int .i64 m)) (hg : 0 < w.heap.size) :
    Calls Tryd.prog 5 #[.slice A bs.length c] w fun e w' => e = .returned (.bool true) ∧ Below w.heap.size w w' := by
  have H1 := fun A c w hr hc hm hg => decode_calls A c bs m w hr hc hl hby hm hg
  have H2 := fun w hr => batchOf_calls A c bs w hr hc hl hby
  generalize decV bs = R at *
  obtain ⟨f, u, l⟩ := R
  replace H1 := Lib.hid H1
  replace H2 := Lib.hid H2
  go_enter Tryd.func5, Tryd.ntmps5
  go_wp2_with (at_builtin; refine clone_list rowU8 rfl _ _ rfl bs A c rfl rfl hr (by omega) ?_; intro A1 c1 w1 hR1 hb1)
  obtain ⟨_, hc1, hC1⟩ := Kd.R_reads' hR1
  refine (H1.out _ _ _ hC1 hc1 (cell_below hb1 hm hg) (by have := hb1.size; omega)).mono ?_
  intro e w2 hw2
  obtain ⟨v2, rfl, hR2, hb2⟩ := hw2
  simp only at hR2 ⊢
  obtain ⟨A2, c2, rfl, _, hC2⟩ := C_of hR2
  have hB2 := hb1.trans (hb2.mono hb1.size)
  have hz2 := hB2.size
  go_wp2_with fail
  refine (H2.out _ (Kd.C_below hr (show Below w.heap.size w _ from (by repeat (first | exact Below.refl _ _ | apply below_alloc | apply pw_below_drewN | apply below_drew1 | (refine Below.setCell ?_ (by first | (simp; done) | (simp; omega) | omega) _) | exact hB2))))).mono ?_
  intro e w3 hw3
  obtain ⟨v3, rfl, hR3, hb3⟩ := hw3
  simp only at hR3 ⊢
  obtain ⟨A3, c3, rfl, _, hC3⟩ := C_of hR3
  have hs3 : w2.heap.size < w3.heap.size := (by have := hb3.size; simp at this; omega)
  have x0 : w3.cell? ⟨w2.heap.size, 0, none⟩ = some (.int .i64 u) := (hb3.cell (p := ⟨w2.heap.size, 0, none⟩) (by simp)).trans (by simp)
  have x1 : w3.cell? ⟨w2.heap.size, 1, none⟩ = some (.slice A2 l.length c2) := (hb3.cell (p := ⟨w2.heap.size, 1, none⟩) (by simp)).trans (by simp)
  have hB3 : Below w.heap.size w w3 := (by repeat (first | exact Below.refl _ _ | apply below_alloc | apply pw_below_drewN | apply below_drew1 | (refine Below.setCell ?_ (by first | (simp; done) | (simp; omega) | omega) _) | (refine below_then ?_ (by first | (simp; done) | (simp; omega) | omega) hb3) | exact hB2))
  have hC2' : Kd.C kAEntry w3 A2 l.length l := Kd.C_below (Kd.C_below hC2 (by repeat (first | exact Below.refl _ _ | apply below_alloc | apply pw_below_drewN | apply below_drew1 | (refine Below.setCell ?_ (by first | (simp; done) | (simp; omega) | omega) _) ))) hb3
  have HS := Lib.hid (fun w' (h : Below w3.heap.size w3 w') => sameBatch_calls u A2 c2 A3 c3 l w' (Kd.C_below hC2' h) (Kd.C_below hC3 h))
  clear hR1 hR2 hR3 H1 H2 hC1 hC2 hC3 hC2' hb1 hb2 hb3
  go_wp2_with fail
  refine (HS.out _ (by repeat (first | exact Below.refl _ _ | apply below_alloc | apply pw_below_drewN | apply below_drew1 | (refine Below.setCell ?_ (by first | (simp; done) | (simp; omega) | omega) _) ))).mono ?_
  rintro e w4 ⟨rfl, hb4⟩
  go_wp2_with fail
  go_ret
  exact ⟨(by first | rfl | (simp; done) | (simp [*]; done) | (rw [if_pos (by omega)]; first | rfl | (simp; done)) | (rw [if_neg (by omega)]; first | rfl | (simp; done)) | (simp; omega)), (by repeat (first | exact Below.refl _ _ | apply below_alloc | apply pw_below_drewN | apply below_drew1 | (refine Below.setCell ?_ (by first | (simp; done) | (simp; omega) | omega) _) | (refine below_then ?_ (by first | (simp; done) | (simp; omega) | omega) hb4) | exact hB3))⟩
end Go.Proofs.YtdffojjimoilgaaDoor.H
namespace Go.Proofs.YtdffojjimoilgaaDoor.bookDecodes
open Go.ChangeShapes Go.WideShapes Go.ChangeAt Go.RowKit Go.Proofs.YtdffojjimoilgaaDoorW.PrintWords Go.Proofs.YtdffojjimoilgaaDoor.U Go.Proofs.YtdffojjimoilgaaDoor.UB Go.Proofs.YtdffojjimoilgaaDoor.H
open Go.ChangeMaps (open_string shut_string)
set_option linter.unusedVariables false
set_option maxRecDepth 100000
theorem own : ownKnob Tryd.prog.godebug = none := by kernel_rfl
theorem laidOut : laidOutB Tryd.prog = true := by kernel_rfl
set_option maxRecDepth 100000 in
theorem lifted (os : Os) (started : os.Started) (H : Type) (enc : TypeId × Value → H) (F : Stop.Interp) :
    ReturnsInHanded {} Tryd.checked os 5 .any ((Rows.OpenSpec.upto Rows.bookDecodesSpec).preRow enc Tryd.prog Tryd.f5 Rows.bookDecodesUptoRow.domain false Rows.bookDecodesUptoRow.laid) (((Rows.OpenSpec.upto Rows.bookDecodesSpec).at F).post enc Tryd.prog Tryd.f5 false true false false) := by
  refine returnsInHanded_of_row (C := Tryd.checked) (s := Rows.OpenSpec.upto Rows.bookDecodesSpec) own started (by kernel_rfl) Tryd.func5
    (witness_up (enc := enc) (C := Tryd.checked) (s := Rows.OpenSpec.upto Rows.bookDecodesSpec) (laid := Rows.bookDecodesUptoRow.laid) os #[.slice none 0 0] 8 (World.shaped_of_ZipB (by kernel_rfl) (by kernel_rfl)) (by kernel_rfl) ([.nil], [], []) (by kernel_rfl) (by kernel_rfl)
      (fun k hk => by cases hk; kernel_rfl) (by kernel_rfl)
      (by rw [MakeChecks.laidMetH_plain _ _ _ (by kernel_rfl)]; exact laidMet_laidAll _ (by kernel_rfl) (by kernel_rfl))) ?_
  intro W base args ds gs before hval0 hW hcnd hcond hsz hL hsh _
  have hk : Rows.uptoSmall H (ds ++ gs) = true := hcond _ rfl
  have hval : ∀ (j : Nat) t v, Tryd.f5.params[j]? = some t → args[j]? = some v → Value.okWide Tryd.prog W .any base t v := hval0
  have hW' := hW
  obtain ⟨p, q, hA0, hV, rfl, hfz, hnd⟩ := hW
  have hA : DataW.TrodAll enc Tryd.prog W 0 (fun _ => true) true Tryd.f5.params.toList args.toList ds p := hA0
  rw [Tryd.params5] at hA hval
  rw [MakeChecks.laidMetH_plain _ _ _ (by kernel_rfl)] at hL
  obtain ⟨ps, hL, hLn, hLc⟩ := hL
  obtain ⟨v0, vs0, d0, ds0, p0, q0, hargs, rfl, rfl, h0, r0⟩ := trodAll_cons hA
  obtain ⟨rfl, rfl, rfl⟩ := trodAll_nil r0
  obtain rfl : args = #[v0] := by cases args; simp_all
  obtain ⟨rfl, rfl⟩ := trodVars_none hV
  have lt0 : ∀ x ∈ p0, x.block < W.heap.size := by obtain ⟨m, hm⟩ := h0; exact DataW.trod_lt m _ _ _ hm
  obtain ⟨l, A, c, rfl, hl, hr, hlen, hall⟩ := arg_slice Tryd.underlying29 (hval 0 _ v0 rfl rfl) h0 (bulk_arg hk (j := 0) rfl) (fun _ => opens_slice Tryd.underlying29 (by kernel_rfl) (fun _ _ => opens_int Tryd.underlying5))
  obtain ⟨m, hm⟩ := cell_of_shapedOpen_int (g := 0) (zero := #[.int .i64 0]) hsh (of_decide_eq_true (by kernel_rfl)) (by kernel_rfl) (by kernel_rfl) (by kernel_rfl) (by kernel_rfl) Tryd.underlying3
  refine (bookDecodes_walk A c l m W hr hl hlen (fun x hx => u8_wf (hall x hx)) hm (lt_of_cell hm)).mono fun e W' ⟨he, bel⟩ => ?_
  subst he
  refine ⟨_, rfl, _, _, _, [], _, [], hW', trodAll_mk1 (shut_bool Tryd.underlying4 _), (trodAll_cons_mk (Below.trod laidOut (by kernel_rfl) (of_decide_eq_true (by kernel_rfl)) h0 bel lt0) trodAll_mk0), rfl, bel.frame _, fun h => by cases h⟩
theorem over : Rows.bookDecodesUptoRow.holds Tryd.pinned (Rows.OpenSpec.upto Rows.bookDecodesSpec) :=
  OpenClaim.holds_of_cond 5 Tryd.f5 rfl rfl rfl rfl rfl rfl rfl ⟨rfl, rfl, rfl, rfl, rfl⟩ rfl rfl rfl rfl rfl (by kernel_rfl) Tryd.func5 (by kernel_rfl)
    (of_decide_eq_true (by kernel_rfl)) (by unfold Func.isWrapper; first | (rw [if_pos (by decide +kernel)]; kernel_rfl) | (rw [if_neg (by decide +kernel)]; exact ⟨rfl, rfl⟩))
    (fun os started H enc _ F => by rw [OpenClaim.pre_eq_preRow]; exact lifted os started H enc F)
theorem card : Rows.BookDecodesUptoCardSaid :=
  Claim7.holds_tied_plain_at .later [] _ _ _ _ over (fun _ h => by cases h) (by kernel_rfl) (fun _ h => by cases h) bookDecodesUpto_row_tie rfl ⟨rfl, rfl⟩ (by kernel_rfl) rfl
    (fun f fn hf hfn => by
      obtain rfl : f = 5 := Option.some.inj ((show Tryd.prog.funcNamed "postroom/postroomlaw.BookDecodes" = some 5 by kernel_rfl).symm.trans hf) |>.symm
      obtain rfl : fn = Tryd.f5 := (Option.some.inj (Tryd.func5.symm.trans hfn)).symm
      exact ⟨by kernel_rfl, fun j t ht => by
        have hm : t ∈ Tryd.f5.params.toList := by simpa using Array.mem_of_getElem? ht
        have hall : (Tryd.f5.params.toList.all fun u => !Tryd.prog.wantsStandIn u) = true := by kernel_rfl
        exact (show Tryd.prog.wantsStandIn t = false by simpa using List.all_eq_true.1 hall t hm)⟩)
    (by kernel_rfl)
end Go.Proofs.YtdffojjimoilgaaDoor.bookDecodes
namespace Go.Proofs.YtdffojjimoilgaaDoor
theorem bookDecodes_holds : Rows.BookDecodesUptoCardSaid := bookDecodes.card
#print axioms bookDecodes_holds
end Go.Proofs.YtdffojjimoilgaaDoor
