/- The law BookEncodes answers true at every batch of small bulk: book.Encode answers as the reference's BatchBytes, and changes nothing. -/
import Derived.Test.YtdffojjimoilgaaDoorCards
import Derived.Test.YtdffojjimoilgaaDoorTie
import Derived.Test.YtdffojjimoilgaaDoorOpensU
import Derived.Test.YtdffojjimoilgaaDoorLaid
import Derived.Test.YtdffojjimoilgaaDoorBase
import Derived.WalkKit
import Derived.ProofKit
import Derived.OpenShut
import Derived.ShutString
import Derived.ChangeOld
import Derived.Below
import Derived.Carry
import Derived.SevenTiedAt
import Derived.Test.YtdffojjimoilgaaDoorKinds
import Derived.Test.YtdffojjimoilgaaDoorEncC
import Derived.Test.YtdffojjimoilgaaDoorBatchA
import Derived.Shelf.Vars
namespace Go.Proofs.YtdffojjimoilgaaDoor.H
open Go.RowKit Go.Proofs.YtdffojjimoilgaaDoorW.PrintWords Go.Proofs.YtdffojjimoilgaaDoorW.PrintLast Go.Proofs.YtdffojjimoilgaaDoorW.PrintMore Go.Proofs.YtdffojjimoilgaaDoor.U
set_option linter.unusedVariables false
set_option linter.unusedSimpArgs false
set_option maxHeartbeats 1000000 in
set_option maxRecDepth 100000 in
theorem bookEncodes_walk (u : Int) (A : Option Addr) (c : Nat) (l : List AEntry) (m : Int) (w : World) (hr : Kd.C kAEntry w A l.length l) (hl : l.length ≤ 1048576) (hs : ∀ x ∈ l, okE x) (hm : w.cell? ⟨0, 0, none⟩ = some (.int .i64 m)) (hg : 0 < w.heap.size) :
    Calls Tryd.prog 4 #[.agg #[.int .i64 u, .slice A l.length c]] w fun e w' => e = .returned (.bool true) ∧ Below w.heap.size w w' := by
  have H0 := Lib.hid (fun w hr => batch_calls u A c l w hr (by omega))
  have H1 := fun A c w hr hm hg => encode_calls u A c l m w hr hs hm hg
  have H2 := fun w hr => batchBytes_calls u A c l w hr hs
  generalize encV u l = R at *
  obtain ⟨f, bs⟩ := R
  have H1 := Lib.hid H1
  have H2 := Lib.hid H2
  have hblk0 := Blk.made w #[.int .i64 u, .slice A l.length c] 24
  have hB0 : Below w.heap.size w (w.alloc (.cells #[.int .i64 u, .slice A l.length c] 24)) := (by repeat (first | exact Below.refl _ _ | apply below_alloc | apply pw_below_drewN | apply below_drew1 | (refine Below.setCell ?_ (by first | (simp; done) | (simp; omega) | omega) _) ))
  have hz0 : (w.alloc (.cells #[.int .i64 u, .slice A l.length c] 24)).heap.size = w.heap.size + 1 := by simp
  go_enter Tryd.func4, Tryd.ntmps4
  go_wp2_with fail
  refine (H0.out _ (Kd.C_below hr (by repeat (first | exact Below.refl _ _ | apply below_alloc | apply pw_below_drewN | apply below_drew1 | (refine Below.setCell ?_ (by first | (simp; done) | (simp; omega) | omega) _) )))).mono ?_
  rintro e w1 ⟨A1, c1, rfl, hR1, hb1⟩
  have hC1 := C_ofR hR1
  have hblk1 := hblk0.below hb1 (by omega)
  have hB1 := hB0.trans (hb1.mono (by omega))
  have hz1 := hblk1.lt
  have hblk1a := hblk1.alloc (.cells #[.int .i64 u, .slice A1 l.length c1] 24)
  have hcp := Blk.made w1 #[.int .i64 u, .slice A1 l.length c1] 24
  have hB1a : Below w.heap.size w (w1.alloc (.cells #[.int .i64 u, .slice A1 l.length c1] 24)) := (by repeat (first | exact Below.refl _ _ | apply below_alloc | apply pw_below_drewN | apply below_drew1 | (refine Below.setCell ?_ (by first | (simp; done) | (simp; omega) | omega) _) | exact hB1))
  have hz1a : (w1.alloc (.cells #[.int .i64 u, .slice A1 l.length c1] 24)).heap.size = w1.heap.size + 1 := by simp
  have hC1a : Kd.C kAEntry (w1.alloc (.cells #[.int .i64 u, .slice A1 l.length c1] 24)) A1 l.length l := Kd.C_below hC1 (by repeat (first | exact Below.refl _ _ | apply below_alloc | apply pw_below_drewN | apply below_drew1 | (refine Below.setCell ?_ (by first | (simp; done) | (simp; omega) | omega) _) ))
  clear hblk0 hB0 hR1 hblk1
  go_wp2_with fail
  refine (H1.out _ _ _ hC1a (cell_below hB1a hm hg) (by omega)).mono ?_
  intro e w2 hw2
  obtain ⟨v2, rfl, hR2, hb2⟩ := hw2
  simp only at hR2 ⊢
  obtain ⟨A2, c2, rfl, _, hC2⟩ := C_of hR2
  have hblk2 := hblk1a.below hb2 (by omega)
  have hcp2 := hcp.below hb2 (by omega)
  have hB2 := hB1a.trans (hb2.mono (by omega))
  have hz2 := hb2.size
  have m0 := hblk2.at 0 _ rfl
  have m1 := hblk2.at 1 _ rfl
  clear hblk1a hcp hB1a
  go_wp2_with fail
  refine (H2.out _ (Kd.C_below hr hB2)).mono ?_
  intro e w3 hw3
  obtain ⟨v3, rfl, hR3, hb3⟩ := hw3
  simp only at hR3 ⊢
  obtain ⟨A3, c3, rfl, _, hC3⟩ := C_of hR3
  have hblk3 := hblk2.below hb3 (by omega)
  have hcp3 := hcp2.below hb3 (by omega)
  have hB3 := hB2.trans (hb3.mono (by omega))
  have m0 := hblk3.at 0 _ rfl
  have m1 := hblk3.at 1 _ rfl
  have n0 := hcp3.at 0 _ rfl
  have n1 := hcp3.at 1 _ rfl
  have cv2 := Kd.C_string (P := Tryd.prog) (src := 29) (dst := 9) (c := c2) Tryd.underlying29 Tryd.underlying5 Tryd.underlying9 (Kd.C_below hC2 hb3)
  have cv3 := Kd.C_string (P := Tryd.prog) (src := 29) (dst := 9) (c := c3) Tryd.underlying29 Tryd.underlying5 Tryd.underlying9 hC3
  have HS := Lib.hid (fun w' (h : Below w3.heap.size w3 w') => sameBatch_calls u A1 c1 A c l w' (Kd.C_below (Kd.C_below (Kd.C_below hC1a hb2) hb3) h) (Kd.C_below (Kd.C_below hr hB3) (h.mono (Nat.le_refl _))))
  go_wp2_with fail
  refine (HS.out _ (Below.refl _ _)).mono ?_
  rintro e w4 ⟨rfl, hb4⟩
  go_wp2_with fail
  go_ret
  exact ⟨(by first | rfl | (simp; done) | (simp [*]; done) | (rw [if_pos (by omega)]; first | rfl | (simp; done)) | (rw [if_neg (by omega)]; first | rfl | (simp; done)) | (simp; omega)), hB3.trans (hb4.mono hB3.size)⟩
end Go.Proofs.YtdffojjimoilgaaDoor.H
namespace Go.Proofs.YtdffojjimoilgaaDoor.bookEncodes
open Go.ChangeShapes Go.WideShapes Go.ChangeAt Go.RowKit Go.Proofs.YtdffojjimoilgaaDoorW.PrintWords Go.Proofs.YtdffojjimoilgaaDoor.U Go.Proofs.YtdffojjimoilgaaDoor.UB Go.Proofs.YtdffojjimoilgaaDoor.H
open Go.ChangeMaps (open_string shut_string)
set_option linter.unusedVariables false
set_option maxRecDepth 100000
theorem own : ownKnob Tryd.prog.godebug = none := by kernel_rfl
theorem laidOut : laidOutB Tryd.prog = true := by kernel_rfl
def okAEntry (x : AEntry) : Prop := (Lit.int .i64 x.kind).wf = true ∧ x.box.size ≤ bulkTop ∧ (Lit.int .i64 x.uid).wf = true ∧ (Lit.int .i64 x.flags).wf = true ∧ x.to_.size ≤ bulkTop ∧ x.text.size ≤ bulkTop
theorem opens_AEntry {n : Nat} : OpensN Tryd.prog n 60 kAEntry okAEntry := by
  intro H enc W base spare held cs x h hm
  obtain ⟨⟨a0, a1, a2, a3, a4, a5⟩, hk, ⟨h0_, h1_, h2_, h3_, h4_, h5_⟩⟩ := (opens_struct Tryd.underlying60 (len := 6) (by kernel_rfl) (fun _ _ => (opensF_cons rfl (by kernel_rfl) (opens_int Tryd.underlying3) (opensF_cons rfl (by kernel_rfl) (opens_string Tryd.underlying9) (opensF_cons rfl (by kernel_rfl) (opens_int Tryd.underlying3) (opensF_cons rfl (by kernel_rfl) (opens_int Tryd.underlying3) (opensF_cons rfl (by kernel_rfl) (opens_string Tryd.underlying9) (opensF_one rfl (by kernel_rfl) (opens_string Tryd.underlying9))))))))) enc W base spare held cs x h hm
  obtain ⟨_, _, rfl, rfl, ⟨_, _, rfl, rfl, ⟨_, _, rfl, rfl, ⟨_, _, rfl, rfl, ⟨_, _, rfl, rfl, rfl⟩⟩⟩⟩⟩ := hk
  exact ⟨⟨a0, a1, a2, a3, a4, a5⟩, rfl, h0_, h1_, h2_, h3_, h4_, h5_⟩
def kBatch : Kd (Int × List AEntry) := Kd.pair (Kd.int .i64) (Kd.slice 60 kAEntry)
theorem opens : Opens Tryd.prog 24 kBatch (fun y => (Lit.int .i64 y.1).wf = true ∧ (y.2.length ≤ bulkTop ∧ ∀ b ∈ y.2, okAEntry b)) := fun n =>
  opens_struct Tryd.underlying24 (len := 2) (by kernel_rfl) (fun m _ => opensF_cons rfl (by kernel_rfl) (opens_int Tryd.underlying3)
    (opensF_one rfl (by kernel_rfl) (opens_slice Tryd.underlying22 (by kernel_rfl) (fun _ _ => opens_AEntry))))
set_option maxRecDepth 100000 in
theorem lifted (os : Os) (started : os.Started) (H : Type) (enc : TypeId × Value → H) (F : Stop.Interp) :
    ReturnsInHanded {} Tryd.checked os 4 .any ((Rows.OpenSpec.upto Rows.bookEncodesSpec).preRow enc Tryd.prog Tryd.f4 Rows.bookEncodesUptoRow.domain false Rows.bookEncodesUptoRow.laid) (((Rows.OpenSpec.upto Rows.bookEncodesSpec).at F).post enc Tryd.prog Tryd.f4 false true false false) := by
  refine returnsInHanded_of_row (C := Tryd.checked) (s := Rows.OpenSpec.upto Rows.bookEncodesSpec) own started (by kernel_rfl) Tryd.func4
    (witness_up (enc := enc) (C := Tryd.checked) (s := Rows.OpenSpec.upto Rows.bookEncodesSpec) (laid := Rows.bookEncodesUptoRow.laid) os #[.agg #[.int .i64 0, .slice none 0 0]] 8 (World.shaped_of_ZipB (by kernel_rfl) (by kernel_rfl)) (by kernel_rfl) ([.agg [.lit (.int .i64 0), .nil]], [], []) (by kernel_rfl) (by kernel_rfl)
      (fun k hk => by cases hk; kernel_rfl) (by kernel_rfl)
      (by rw [MakeChecks.laidMetH_plain _ _ _ (by kernel_rfl)]; exact laidMet_laidAll _ (by kernel_rfl) (by kernel_rfl))) ?_
  intro W base args ds gs before hval0 hW hcnd hcond hsz hL hsh _
  have hk : Rows.uptoSmall H (ds ++ gs) = true := hcond _ rfl
  have hval : ∀ (j : Nat) t v, Tryd.f4.params[j]? = some t → args[j]? = some v → Value.okWide Tryd.prog W .any base t v := hval0
  have hW' := hW
  obtain ⟨p, q, hA0, hV, rfl, hfz, hnd⟩ := hW
  have hA : DataW.TrodAll enc Tryd.prog W 0 (fun _ => true) true Tryd.f4.params.toList args.toList ds p := hA0
  rw [Tryd.params4] at hA hval
  rw [MakeChecks.laidMetH_plain _ _ _ (by kernel_rfl)] at hL
  obtain ⟨ps, hL, hLn, hLc⟩ := hL
  obtain ⟨v0, vs0, d0, ds0, p0, q0, hargs, rfl, rfl, h0, r0⟩ := trodAll_cons hA
  obtain ⟨rfl, rfl, rfl⟩ := trodAll_nil r0
  obtain rfl : args = #[v0] := by cases args; simp_all
  obtain ⟨rfl, rfl⟩ := trodVars_none hV
  have lt0 : ∀ x ∈ p0, x.block < W.heap.size := by obtain ⟨m, hm⟩ := h0; exact DataW.trod_lt m _ _ _ hm
  obtain ⟨⟨u, l⟩, cs, rfl, ⟨cu, _, hcs, hu, ⟨A, c, rfl, hl, hr⟩⟩, ⟨hwf, hlen, hall⟩⟩ := arg_struct Tryd.underlying24 (hval 0 _ v0 rfl rfl) h0 (bulk_arg hk (j := 0) rfl) opens
  obtain rfl : cu = [.int .i64 u] := hu
  obtain rfl : cs = #[.int .i64 u, .slice A l.length c] := by cases cs; simpa using hcs
  obtain ⟨m, hm⟩ := cell_of_shapedOpen_int (g := 0) (zero := #[.int .i64 0]) hsh (of_decide_eq_true (by kernel_rfl)) (by kernel_rfl) (by kernel_rfl) (by kernel_rfl) (by kernel_rfl) Tryd.underlying3
  refine (bookEncodes_walk u A c l m W hr hlen (fun x hx => ⟨(hall x hx).2.1, (hall x hx).2.2.2.2.1, (hall x hx).2.2.2.2.2⟩) hm (lt_of_cell hm)).mono fun e W' ⟨he, bel⟩ => ?_
  subst he
  refine ⟨_, rfl, _, _, _, [], _, [], hW', trodAll_mk1 (shut_bool Tryd.underlying4 _), (trodAll_cons_mk (Below.trod laidOut (by kernel_rfl) (of_decide_eq_true (by kernel_rfl)) h0 bel lt0) trodAll_mk0), rfl, bel.frame _, fun h => by cases h⟩
theorem over : Rows.bookEncodesUptoRow.holds Tryd.pinned (Rows.OpenSpec.upto Rows.bookEncodesSpec) :=
  OpenClaim.holds_of_cond 4 Tryd.f4 rfl rfl rfl rfl rfl rfl rfl ⟨rfl, rfl, rfl, rfl, rfl⟩ rfl rfl rfl rfl rfl (by kernel_rfl) Tryd.func4 (by kernel_rfl)
    (of_decide_eq_true (by kernel_rfl)) (by unfold Func.isWrapper; first | (rw [if_pos (by decide +kernel)]; kernel_rfl) | (rw [if_neg (by decide +kernel)]; exact ⟨rfl, rfl⟩))
    (fun os started H enc _ F => by rw [OpenClaim.pre_eq_preRow]; exact lifted os started H enc F)
theorem card : Rows.BookEncodesUptoCardSaid :=
  Claim7.holds_tied_plain_at .later [] _ _ _ _ over (fun _ h => by cases h) (by kernel_rfl) (fun _ h => by cases h) bookEncodesUpto_row_tie rfl ⟨rfl, rfl⟩ (by kernel_rfl) rfl
    (fun f fn hf hfn => by
      obtain rfl : f = 4 := Option.some.inj ((show Tryd.prog.funcNamed "postroom/postroomlaw.BookEncodes" = some 4 by kernel_rfl).symm.trans hf) |>.symm
      obtain rfl : fn = Tryd.f4 := (Option.some.inj (Tryd.func4.symm.trans hfn)).symm
      exact ⟨by kernel_rfl, fun j t ht => by
        have hm : t ∈ Tryd.f4.params.toList := by simpa using Array.mem_of_getElem? ht
        have hall : (Tryd.f4.params.toList.all fun u => !Tryd.prog.wantsStandIn u) = true := by kernel_rfl
        exact (show Tryd.prog.wantsStandIn t = false by simpa using List.all_eq_true.1 hall t hm)⟩)
    (by kernel_rfl)
end Go.Proofs.YtdffojjimoilgaaDoor.bookEncodes
namespace Go.Proofs.YtdffojjimoilgaaDoor
theorem bookEncodes_holds : Rows.BookEncodesUptoCardSaid := bookEncodes.card
#print axioms bookEncodes_holds
end Go.Proofs.YtdffojjimoilgaaDoor
