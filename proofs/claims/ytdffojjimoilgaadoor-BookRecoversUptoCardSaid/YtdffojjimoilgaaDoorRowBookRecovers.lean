/- The law BookRecovers answers true at every tape of small bulk: book.Recover answers as the reference's TapeRecovered, and changes nothing. -/
import Derived.Test.YtdffojjimoilgaaDoorCards
import Derived.Test.YtdffojjimoilgaaDoorTie
import Derived.Test.YtdffojjimoilgaaDoorOpensU
import Derived.Test.YtdffojjimoilgaaDoorLaid
import Derived.Test.YtdffojjimoilgaaDoorBase
import Derived.WalkKit
import Derived.ProofKit
import Derived.OpenShut
import Derived.ShutString
import Derived.ChangeOld
import Derived.Below
import Derived.Carry
import Derived.SevenTiedAt
import Derived.Test.YtdffojjimoilgaaDoorKinds
import Derived.Test.YtdffojjimoilgaaDoorRecB
import Derived.Test.YtdffojjimoilgaaDoorRecC
import Derived.Test.YtdffojjimoilgaaDoorRecD
import Derived.Shelf.Vars
namespace Go.Proofs.YtdffojjimoilgaaDoor.H
open Go.RowKit Go.Proofs.YtdffojjimoilgaaDoorW.PrintWords Go.Proofs.YtdffojjimoilgaaDoorW.PrintLast Go.Proofs.YtdffojjimoilgaaDoorW.PrintMore Go.Proofs.YtdffojjimoilgaaDoor.U
set_option linter.unusedVariables false
set_option linter.unusedSimpArgs false
theorem u8_wf {b : Int} (h : (Lit.int .u8 b).wf = true) : 0 ≤ b ∧ b ≤ 255 := by
  have h2 : (decide (IntKind.u8.min ≤ b) && decide (b ≤ IntKind.u8.max)) = true := h
  rw [Bool.and_eq_true, decide_eq_true_eq, decide_eq_true_eq] at h2
  exact h2
set_option maxHeartbeats 1000000 in
set_option maxRecDepth 100000 in
theorem bookRecovers_walk (A : Option Addr) (c : Nat) (bs : List Int) (s : Int) (m : Int) (w : World) (hr : Kd.C (Kd.int .u8) w A bs.length bs) (hc : bs.length ≤ c) (hl : bs.length ≤ 1048576) (hby : ∀ x ∈ bs, 0 ≤ x ∧ x ≤ 255)
    (hm : w.cell? ⟨0, 0, none⟩ = some (.int .i64 m)) (hg : 0 < w.heap.size) :
    Calls Tryd.prog 7 #[.agg #[.slice A bs.length c, .int .i64 s]] w fun e w' => e = .returned (.bool true) ∧ Below w.heap.size w w' := by
  have H1 := fun A c w hr hm hg => recover_calls A c bs s m w hr hl hby hm hg
  have H2 := fun w hr => tapeRecovered_calls A c bs s w hr hc hl hby
  generalize recV bs s = R at *
  obtain ⟨f, ls, ds, sy⟩ := R
  replace H1 := Lib.hid H1
  replace H2 := Lib.hid H2
  have h10 := Blk.made w #[.slice A bs.length c, .int .i64 s] 37
  have hB0 : Below w.heap.size w (w.alloc (.cells #[.slice A bs.length c, .int .i64 s] 37)) := (by repeat (first | exact Below.refl _ _ | apply below_alloc | apply pw_below_drewN | apply below_drew1 | (refine Below.setCell ?_ (by first | (simp; done) | (simp; omega) | omega) _) ))
  have hz0 : (w.alloc (.cells #[.slice A bs.length c, .int .i64 s] 37)).heap.size = w.heap.size + 1 := by simp
  go_enter Tryd.func7, Tryd.ntmps7
  go_wp2_with fail
  refine (tapes_calls A c bs s _ (Kd.C_below hr hB0) (by omega)).mono ?_
  rintro e w1 ⟨v1, rfl, hR1, hb1⟩
  obtain ⟨A1, c1, rfl, hc1, hC1⟩ := C_of hR1
  have hz1 := hb1.size
  have h11 := h10.below hb1 (by omega)
  have hB1 := hB0.trans (hb1.mono (by omega))
  obtain ⟨Wa, hWa⟩ : ∃ Wa : World, Wa = w1.alloc (.cells #[.slice A1 bs.length c1, .int .i64 s] 37) := ⟨_, rfl⟩
  have h3 : Blk Wa w1.heap.size [.slice A1 bs.length c1, .int .i64 s] := by rw [hWa]; exact Blk.made w1 _ _
  have h1 : Blk Wa w.heap.size [.slice A bs.length c, .int .i64 s] := by rw [hWa]; exact h11.alloc _
  have hBa : Below w.heap.size w Wa := by rw [hWa]; exact below_alloc' hB1 (by omega) _
  have hCa : (Kd.int .u8).C Wa A1 bs.length bs := by rw [hWa]; exact Kd.C_below hC1 (by repeat (first | exact Below.refl _ _ | apply below_alloc | apply pw_below_drewN | apply below_drew1 | (refine Below.setCell ?_ (by first | (simp; done) | (simp; omega) | omega) _) ))
  have hza : Wa.heap.size = w1.heap.size + 1 := by rw [hWa]; simp
  replace hWa := Lib.hid hWa
  clear h10 h11 hB0 hB1 hR1 hb1 hC1
  go_wp2_with fail
  rw [← hWa.out]
  refine (H1.out _ _ _ hCa (cell_below hBa hm hg) (by omega)).mono ?_
  intro e w2 hw2
  obtain ⟨A2, c2, A3, c3, rfl, hK2, hD2, hb2⟩ := hw2
  simp only at hK2 hD2 ⊢
  have hz2 := hb2.size
  obtain ⟨Wb, hWb⟩ : ∃ Wb : World, Wb = w2.alloc (.cells #[.slice A3 ds.length c3, .int .i64 sy] 37) := ⟨_, rfl⟩
  have h3b : Blk Wb w1.heap.size [.slice A1 bs.length c1, .int .i64 s] := by rw [hWb]; exact (h3.below hb2 (by omega)).alloc _
  have h1b : Blk Wb w.heap.size [.slice A bs.length c, .int .i64 s] := by rw [hWb]; exact (h1.below hb2 (by omega)).alloc _
  have h5b : Blk Wb w2.heap.size [.slice A3 ds.length c3, .int .i64 sy] := by rw [hWb]; exact Blk.made w2 _ _
  have hBb : Below w.heap.size w Wb := by rw [hWb]; exact below_alloc' (hBa.trans (hb2.mono (by omega))) (by omega) _
  have hK2b : kB.C Wb A2 ls.length ls := by rw [hWb]; exact Kd.C_below hK2 (by repeat (first | exact Below.refl _ _ | apply below_alloc | apply pw_below_drewN | apply below_drew1 | (refine Below.setCell ?_ (by first | (simp; done) | (simp; omega) | omega) _) ))
  have hD2b : (Kd.int .u8).C Wb A3 ds.length ds := by rw [hWb]; exact Kd.C_below hD2 (by repeat (first | exact Below.refl _ _ | apply below_alloc | apply pw_below_drewN | apply below_drew1 | (refine Below.setCell ?_ (by first | (simp; done) | (simp; omega) | omega) _) ))
  have hCb : (Kd.int .u8).C Wb A1 bs.length bs := by rw [hWb]; exact Kd.C_below (Kd.C_below hCa hb2) (by repeat (first | exact Below.refl _ _ | apply below_alloc | apply pw_below_drewN | apply below_drew1 | (refine Below.setCell ?_ (by first | (simp; done) | (simp; omega) | omega) _) ))
  have hzb : Wb.heap.size = w2.heap.size + 1 := by rw [hWb]; simp
  replace hWb := Lib.hid hWb
  have g10 := (h1.below hb2 (by omega)).at 0 _ rfl
  have g11 := (h1.below hb2 (by omega)).at 1 _ rfl
  have hzz : w.heap.size < w2.heap.size := by omega
  clear h3 h1 hBa hCa hK2 hD2 hb2
  go_wp2_with fail
  rw [← hWb.out]
  refine (H2.out _ (Kd.C_below hr hBb)).mono ?_
  intro e w3 hw3
  obtain ⟨A4, c4, A5, c5, rfl, hK3, hD3, hb3⟩ := hw3
  simp only at hK3 hD3 ⊢
  have hz3 := hb3.size
  have h3c := h3b.below hb3 (by omega)
  have h1c := h1b.below hb3 (by omega)
  have h5c := h5b.below hb3 (by omega)
  have hBc := hBb.trans (hb3.mono (by omega))
  have hK2c := Kd.C_below hK2b hb3
  have hD2c := Kd.C_below hD2b hb3
  have hCc := Kd.C_below hCb hb3
  have a0 := h3c.at 0 _ rfl
  have a1 := h3c.at 1 _ rfl
  have b0 := h1c.at 0 _ rfl
  have b1 := h1c.at 1 _ rfl
  have d0 := h5c.at 0 _ rfl
  have d1 := h5c.at 1 _ rfl
  have q1 : w.heap.size < w3.heap.size := by omega
  have q2 : w1.heap.size < w3.heap.size := by omega
  have q3 : w2.heap.size < w3.heap.size := by omega
  have S1 := Lib.hid (fun W (h : Below w3.heap.size w3 W) => sameBatches_calls A2 c2 A4 c4 ls W (Kd.C_below hK2c h) (Kd.C_below hK3 h))
  have S2 := Lib.hid (fun W (h : Below w3.heap.size w3 W) => sameTape_calls A3 c3 A5 c5 ds sy W (Kd.C_below hD2c h) (Kd.C_below hD3 h))
  have S3 := Lib.hid (fun W (h : Below w3.heap.size w3 W) => sameTape_calls A1 c1 A c bs s W (Kd.C_below hCc h) (Kd.C_below (Kd.C_below hr hBc) h))
  clear h3b h1b h5b hBb hK2b hD2b hCb hb3 g10 g11 H1 H2
  go_wp2_with fail
  refine (S1.out _ (by repeat (first | exact Below.refl _ _ | apply below_alloc | apply pw_below_drewN | apply below_drew1 | (refine Below.setCell ?_ (by first | (simp; done) | (simp; omega) | omega) _) ))).mono ?_
  rintro e w4 ⟨rfl, hb4⟩
  have hb4' : Below w3.heap.size w3 w4 := (by repeat (first | exact Below.refl _ _ | apply below_alloc | apply pw_below_drewN | apply below_drew1 | (refine Below.setCell ?_ (by first | (simp; done) | (simp; omega) | omega) _) | (refine below_then ?_ (by first | (simp; done) | (simp; omega) | omega) hb4)))
  have hz4 : w3.heap.size < w4.heap.size := by have := hb4.size; simp at this; omega
  have k0 : w4.cell? ⟨w3.heap.size, 0, none⟩ = some (.slice A5 ds.length c5) := (hb4.cell (p := ⟨w3.heap.size, 0, none⟩) (by simp)).trans (by simp)
  have k1 : w4.cell? ⟨w3.heap.size, 1, none⟩ = some (.int .i64 sy) := (hb4.cell (p := ⟨w3.heap.size, 1, none⟩) (by simp)).trans (by simp)
  have d0' := (hb4'.cell (p := ⟨w2.heap.size, 0, none⟩) q3).trans d0
  have d1' := (hb4'.cell (p := ⟨w2.heap.size, 1, none⟩) q3).trans d1
  go_wp2_with fail
  refine (S2.out _ hb4').mono ?_
  rintro e w5 ⟨rfl, hb5⟩
  have hb5' := hb4'.trans (hb5.mono (by omega))
  have a0' := (hb5'.cell (p := ⟨w1.heap.size, 0, none⟩) q2).trans a0
  have a1' := (hb5'.cell (p := ⟨w1.heap.size, 1, none⟩) q2).trans a1
  have b0' := (hb5'.cell (p := ⟨w.heap.size, 0, none⟩) q1).trans b0
  have b1' := (hb5'.cell (p := ⟨w.heap.size, 1, none⟩) q1).trans b1
  go_wp2_with fail
  refine (S3.out _ hb5').mono ?_
  rintro e w6 ⟨rfl, hb6⟩
  go_wp2_with fail
  go_ret
  exact ⟨(by first | rfl | (simp; done) | (simp [*]; done) | (rw [if_pos (by omega)]; first | rfl | (simp; done)) | (rw [if_neg (by omega)]; first | rfl | (simp; done)) | (simp; omega)), hBc.trans ((hb5'.trans (hb6.mono hb5'.size)).mono (by omega))⟩
end Go.Proofs.YtdffojjimoilgaaDoor.H
namespace Go.Proofs.YtdffojjimoilgaaDoor.bookRecovers
open Go.ChangeShapes Go.WideShapes Go.ChangeAt Go.RowKit Go.Proofs.YtdffojjimoilgaaDoorW.PrintWords Go.Proofs.YtdffojjimoilgaaDoor.U Go.Proofs.YtdffojjimoilgaaDoor.UB Go.Proofs.YtdffojjimoilgaaDoor.H
open Go.ChangeMaps (open_string shut_string)
set_option linter.unusedVariables false
set_option maxRecDepth 100000
theorem own : ownKnob Tryd.prog.godebug = none := by kernel_rfl
theorem laidOut : laidOutB Tryd.prog = true := by kernel_rfl
def kTape : Kd (List Int × Int) := Kd.pair (Kd.slice 5 (Kd.int .u8)) (Kd.int .i64)
theorem opensT : Opens Tryd.prog 37 kTape (fun y => (y.1.length ≤ bulkTop ∧ ∀ b ∈ y.1, (Lit.int .u8 b).wf = true) ∧ (Lit.int .i64 y.2).wf = true) := fun n =>
  opens_struct Tryd.underlying37 (len := 2) (by kernel_rfl) (fun m _ => opensF_cons rfl (by kernel_rfl) (opens_slice Tryd.underlying29 (by kernel_rfl) (fun _ _ => opens_int Tryd.underlying5)) (opensF_one rfl (by kernel_rfl) (opens_int Tryd.underlying3)))
set_option maxRecDepth 100000 in
theorem lifted (os : Os) (started : os.Started) (H : Type) (enc : TypeId × Value → H) (F : Stop.Interp) :
    ReturnsInHanded {} Tryd.checked os 7 .any ((Rows.OpenSpec.upto Rows.bookRecoversSpec).preRow enc Tryd.prog Tryd.f7 Rows.bookRecoversUptoRow.domain false Rows.bookRecoversUptoRow.laid) (((Rows.OpenSpec.upto Rows.bookRecoversSpec).at F).post enc Tryd.prog Tryd.f7 false true false false) := by
  refine returnsInHanded_of_row (C := Tryd.checked) (s := Rows.OpenSpec.upto Rows.bookRecoversSpec) own started (by kernel_rfl) Tryd.func7
    (witness_up (enc := enc) (C := Tryd.checked) (s := Rows.OpenSpec.upto Rows.bookRecoversSpec) (laid := Rows.bookRecoversUptoRow.laid) os #[.agg #[.slice none 0 0, .int .i64 0]] 8 (World.shaped_of_ZipB (by kernel_rfl) (by kernel_rfl)) (by kernel_rfl) ([.agg [.nil, .lit (.int .i64 0)]], [], []) (by kernel_rfl) (by kernel_rfl)
      (fun k hk => by cases hk; kernel_rfl) (by kernel_rfl)
      (by rw [MakeChecks.laidMetH_plain _ _ _ (by kernel_rfl)]; exact laidMet_laidAll _ (by kernel_rfl) (by kernel_rfl))) ?_
  intro W base args ds gs before hval0 hW hcnd hcond hsz hL hsh _
  have hk : Rows.uptoSmall H (ds ++ gs) = true := hcond _ rfl
  have hval : ∀ (j : Nat) t v, Tryd.f7.params[j]? = some t → args[j]? = some v → Value.okWide Tryd.prog W .any base t v := hval0
  have hW' := hW
  obtain ⟨p, q, hA0, hV, rfl, hfz, hnd⟩ := hW
  have hA : DataW.TrodAll enc Tryd.prog W 0 (fun _ => true) true Tryd.f7.params.toList args.toList ds p := hA0
  rw [Tryd.params7] at hA hval
  rw [MakeChecks.laidMetH_plain _ _ _ (by kernel_rfl)] at hL
  obtain ⟨ps, hL, hLn, hLc⟩ := hL
  obtain ⟨v0, vs0, d0, ds0, p0, q0, hargs, rfl, rfl, h0, r0⟩ := trodAll_cons hA
  obtain ⟨rfl, rfl, rfl⟩ := trodAll_nil r0
  obtain rfl : args = #[v0] := by cases args; simp_all
  obtain ⟨rfl, rfl⟩ := trodVars_none hV
  have lt0 : ∀ x ∈ p0, x.block < W.heap.size := by obtain ⟨m, hm⟩ := h0; exact DataW.trod_lt m _ _ _ hm
  obtain ⟨⟨lt, s⟩, ct, rfl, ⟨c0, c1, hct, ⟨A, c, rfl, hlt, hrt⟩, rfl⟩, ⟨hlent, hall⟩, hsw⟩ := arg_struct Tryd.underlying37 (hval 0 _ v0 rfl rfl) h0 (bulk_arg hk (j := 0) rfl) opensT
  obtain rfl : ct = #[.slice A lt.length c, .int .i64 s] := by cases ct; simpa using hct
  obtain ⟨m, hm⟩ := cell_of_shapedOpen_int (g := 0) (zero := #[.int .i64 0]) hsh (of_decide_eq_true (by kernel_rfl)) (by kernel_rfl) (by kernel_rfl) (by kernel_rfl) (by kernel_rfl) Tryd.underlying3
  refine (bookRecovers_walk A c lt s m W hrt hlt hlent (fun x hx => u8_wf (hall x hx)) hm (lt_of_cell hm)).mono fun e W' ⟨he, bel⟩ => ?_
  subst he
  refine ⟨_, rfl, _, _, _, [], _, [], hW', trodAll_mk1 (shut_bool Tryd.underlying4 _), (trodAll_cons_mk (Below.trod laidOut (by kernel_rfl) (of_decide_eq_true (by kernel_rfl)) h0 bel lt0) trodAll_mk0), rfl, bel.frame _, fun h => by cases h⟩
theorem over : Rows.bookRecoversUptoRow.holds Tryd.pinned (Rows.OpenSpec.upto Rows.bookRecoversSpec) :=
  OpenClaim.holds_of_cond 7 Tryd.f7 rfl rfl rfl rfl rfl rfl rfl ⟨rfl, rfl, rfl, rfl, rfl⟩ rfl rfl rfl rfl rfl (by kernel_rfl) Tryd.func7 (by kernel_rfl)
    (of_decide_eq_true (by kernel_rfl)) (by unfold Func.isWrapper; first | (rw [if_pos (by decide +kernel)]; kernel_rfl) | (rw [if_neg (by decide +kernel)]; exact ⟨rfl, rfl⟩))
    (fun os started H enc _ F => by rw [OpenClaim.pre_eq_preRow]; exact lifted os started H enc F)
theorem card : Rows.BookRecoversUptoCardSaid :=
  Claim7.holds_tied_plain_at .later [] _ _ _ _ over (fun _ h => by cases h) (by kernel_rfl) (fun _ h => by cases h) bookRecoversUpto_row_tie rfl ⟨rfl, rfl⟩ (by kernel_rfl) rfl
    (fun f fn hf hfn => by
      obtain rfl : f = 7 := Option.some.inj ((show Tryd.prog.funcNamed "postroom/postroomlaw.BookRecovers" = some 7 by kernel_rfl).symm.trans hf) |>.symm
      obtain rfl : fn = Tryd.f7 := (Option.some.inj (Tryd.func7.symm.trans hfn)).symm
      exact ⟨by kernel_rfl, fun j t ht => by
        have hm : t ∈ Tryd.f7.params.toList := by simpa using Array.mem_of_getElem? ht
        have hall : (Tryd.f7.params.toList.all fun u => !Tryd.prog.wantsStandIn u) = true := by kernel_rfl
        exact (show Tryd.prog.wantsStandIn t = false by simpa using List.all_eq_true.1 hall t hm)⟩)
    (by kernel_rfl)
end Go.Proofs.YtdffojjimoilgaaDoor.bookRecovers
namespace Go.Proofs.YtdffojjimoilgaaDoor
theorem bookRecovers_holds : Rows.BookRecoversUptoCardSaid := bookRecovers.card
#print axioms bookRecovers_holds
end Go.Proofs.YtdffojjimoilgaaDoor
