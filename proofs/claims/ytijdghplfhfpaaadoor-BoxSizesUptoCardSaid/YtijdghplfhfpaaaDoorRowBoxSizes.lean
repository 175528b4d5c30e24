/- The law BoxSizes answers true at every state of small bulk: box.Size answers as the reference's BytesOf where the reference's StateFault lets it, and changes nothing. -/
import Derived.Test.YtijdghplfhfpaaaDoorCards
import Derived.Test.YtijdghplfhfpaaaDoorTie
import Derived.Test.YtijdghplfhfpaaaDoorOpensU
import Derived.Test.YtijdghplfhfpaaaDoorLaid
import Derived.Test.YtijdghplfhfpaaaDoorBase
import Derived.WalkKit
import Derived.ProofKit
import Derived.OpenShut
import Derived.ShutString
import Derived.ChangeOld
import Derived.Below
import Derived.Carry
import Derived.SevenTiedAt
import Derived.Test.YtijdghplfhfpaaaDoorBoxR
import Derived.Test.YtijdghplfhfpaaaDoorBoxI
import Derived.Test.YtijdghplfhfpaaaDoorBoxQ
import Derived.Test.YtijdghplfhfpaaaDoorBoxO
import Derived.Shelf.Vars
namespace Go.Proofs.YtijdghplfhfpaaaDoor.H
open Go.RowKit Go.Proofs.YtijdghplfhfpaaaDoorW.PrintWords Go.Proofs.YtijdghplfhfpaaaDoorW.PrintLast Go.Proofs.YtijdghplfhfpaaaDoorW.PrintMore Go.Proofs.YtijdghplfhfpaaaDoor.U
set_option linter.unusedVariables false
set_option linter.unusedSimpArgs false
set_option maxHeartbeats 1000000 in
set_option maxRecDepth 100000 in
theorem boxSizes_walk (A : Option Addr) (c : Nat) (bs : List ABox) (A2 : Option Addr) (c2 : Nat) (es : List AEntry) (m : Int) (w : World) (hr : kBox.C w A bs.length bs) (hc : bs.length ≤ c) (hr2 : Kd.C kAEntry w A2 es.length es) (hs : okSt bs es)
    (hl1 : bs.length ≤ 1048576) (hl2 : es.length ≤ 1048576) (hl3 : ∀ b ∈ bs, b.2.2.length ≤ 1048576)
    (hm : w.cell? ⟨6, 0, none⟩ = some (.int .i64 m)) (hg : 6 < w.heap.size) :
    Calls Tryd.prog 4 #[.agg #[.slice A bs.length c, .slice A2 es.length c2]] w fun e w' => e = .returned (.bool true) ∧ Below w.heap.size w w' := by
  have hk0 := Blk.made w #[.slice A bs.length c, .slice A2 es.length c2] 25
  have hB0 : Below w.heap.size w (w.alloc (.cells #[.slice A bs.length c, .slice A2 es.length c2] 25)) := (by repeat (first | exact Below.refl _ _ | apply below_alloc | apply pw_below_drewN | apply below_drew1 | (refine Below.setCell ?_ (by first | (simp; done) | (simp; omega) | omega) _) ))
  have HS := Lib.hid (states_calls A c bs A2 c2 es _ (Kd.C_below hr hB0) (Kd.C_below hr2 hB0) hl1 hl2 hl3)
  have H1 := fun A c A2 c2 w hr hc hr2 => sizeTop_calls A c bs A2 c2 es m w hr hc hr2 hs
  have H2 := fun w hr hr2 => stateFault_calls A c bs A2 c2 es w hr hc hr2 hs
  replace H1 := Lib.hid H1
  by_cases hf : stFault bs es = 0
  · have ht := st_tot hs hf
    have HZ := Lib.hid (fun w hr => bytesOf_calls A c bs (.slice A2 es.length c2) w ⟨_, _, _, rfl⟩ hr (by omega))
    have hsz : sizeOf' bs es = (stSize bs : Int) := if_pos hf
    rw [hf] at H1 H2
    rw [hsz] at H1
    generalize stSize bs = z at *
    replace H2 := Lib.hid H2
    clear hf hsz
    go_enter Tryd.func4, Tryd.ntmps4
    go_wp2_with fail
    refine HS.out.mono ?_
    rintro e w1 ⟨vB, vS, rfl, hSB, hSE, hb1⟩
    obtain ⟨A1, c1, rfl, hc1, hC1⟩ := Kd.S_reads hSB
    obtain ⟨A3, c3, rfl, hc3, hC3⟩ := C_of hSE
    have hz1 := hb1.size
    simp at hz1
    have hk1 := hk0.below hb1 (by simp)
    have hB1 := hB0.trans (hb1.mono (by simp))
    clear hk0 hB0 hSB hSE hb1
    go_wp2_with fail
    refine (H1.out _ _ _ _ _ hC1 hc1 hC3 (cell_below hB1 hm hg) (by omega)).mono ?_
    rintro e w2 ⟨rfl, hb2⟩
    have hk2 := hk1.below hb2 (by omega)
    have hB2 := hB1.trans (hb2.mono hB1.size)
    have m0 := hk2.at 0 _ rfl
    have m1 := hk2.at 1 _ rfl
    have hz2 := hb2.size
    go_wp2_with fail
    refine (H2.out _ (Kd.C_below hr hB2) (Kd.C_below hr2 hB2)).mono ?_
    rintro e w3 ⟨rfl, hb3⟩
    have hk3 := hk2.below hb3 (by omega)
    have hB3 := hB2.trans (hb3.mono hB2.size)
    have k0 := hk3.at 0 _ rfl
    have k1 := hk3.at 1 _ rfl
    clear m0 m1
    go_wp2_with fail
    refine (HZ.out _ (Kd.C_below hr hB3)).mono ?_
    rintro e w4 ⟨rfl, hb4⟩
    go_wp2_with fail
    go_ret
    exact ⟨(by first | rfl | (simp; done) | (simp [*]; done) | (rw [if_pos (by omega)]; first | rfl | (simp; done)) | (rw [if_neg (by omega)]; first | rfl | (simp; done)) | (simp; omega)), hB3.trans (hb4.mono hB3.size)⟩
  · have hsz : sizeOf' bs es = 0 := if_neg hf
    rw [hsz] at H1
    generalize stFault bs es = f at *
    have hfb : (f == 0) = false := by simp [hf]
    replace H2 := Lib.hid H2
    clear hf hsz
    go_enter Tryd.func4, Tryd.ntmps4
    go_wp2_with fail
    refine HS.out.mono ?_
    rintro e w1 ⟨vB, vS, rfl, hSB, hSE, hb1⟩
    obtain ⟨A1, c1, rfl, hc1, hC1⟩ := Kd.S_reads hSB
    obtain ⟨A3, c3, rfl, hc3, hC3⟩ := C_of hSE
    have hz1 := hb1.size
    simp at hz1
    have hk1 := hk0.below hb1 (by simp)
    have hB1 := hB0.trans (hb1.mono (by simp))
    clear hk0 hB0 hSB hSE hb1
    go_wp2_with fail
    refine (H1.out _ _ _ _ _ hC1 hc1 hC3 (cell_below hB1 hm hg) (by omega)).mono ?_
    rintro e w2 ⟨rfl, hb2⟩
    have hk2 := hk1.below hb2 (by omega)
    have hB2 := hB1.trans (hb2.mono hB1.size)
    have m0 := hk2.at 0 _ rfl
    have m1 := hk2.at 1 _ rfl
    have hz2 := hb2.size
    go_wp2_with fail
    refine (H2.out _ (Kd.C_below hr hB2) (Kd.C_below hr2 hB2)).mono ?_
    rintro e w3 ⟨rfl, hb3⟩
    have hk3 := hk2.below hb3 (by omega)
    have hB3 := hB2.trans (hb3.mono hB2.size)
    have k0 := hk3.at 0 _ rfl
    have k1 := hk3.at 1 _ rfl
    clear m0 m1
    go_wp2_with fail
    go_ret
    exact ⟨(by first | rfl | (simp; done) | (simp [*]; done) | (rw [if_pos (by omega)]; first | rfl | (simp; done)) | (rw [if_neg (by omega)]; first | rfl | (simp; done)) | (simp; omega)), hB3⟩
end Go.Proofs.YtijdghplfhfpaaaDoor.H
namespace Go.Proofs.YtijdghplfhfpaaaDoor.boxSizes
open Go.ChangeShapes Go.WideShapes Go.ChangeAt Go.RowKit Go.Proofs.YtijdghplfhfpaaaDoorW.PrintWords Go.Proofs.YtijdghplfhfpaaaDoor.U Go.Proofs.YtijdghplfhfpaaaDoor.UB Go.Proofs.YtijdghplfhfpaaaDoor.H
open Go.ChangeMaps (open_string shut_string)
set_option linter.unusedVariables false
set_option maxRecDepth 100000
theorem own : ownKnob Tryd.prog.godebug = none := by kernel_rfl
theorem laidOut : laidOutB Tryd.prog = true := by kernel_rfl
set_option maxRecDepth 100000 in
theorem lifted (os : Os) (started : os.Started) (H : Type) (enc : TypeId × Value → H) (F : Stop.Interp) :
    ReturnsInHanded {} Tryd.checked os 4 .any ((Rows.OpenSpec.upto Rows.boxSizesSpec).preRow enc Tryd.prog Tryd.f4 Rows.boxSizesUptoRow.domain false Rows.boxSizesUptoRow.laid) (((Rows.OpenSpec.upto Rows.boxSizesSpec).at F).post enc Tryd.prog Tryd.f4 false true false false) := by
  refine returnsInHanded_of_row (C := Tryd.checked) (s := Rows.OpenSpec.upto Rows.boxSizesSpec) own started (by kernel_rfl) Tryd.func4
    (witness_up (enc := enc) (C := Tryd.checked) (s := Rows.OpenSpec.upto Rows.boxSizesSpec) (laid := Rows.boxSizesUptoRow.laid) os #[.agg #[.slice none 0 0, .slice none 0 0]] 8 (World.shaped_of_ZipB (by kernel_rfl) (by kernel_rfl)) (by kernel_rfl) ([.agg [.nil, .nil]], [], []) (by kernel_rfl) (by kernel_rfl)
      (fun k hk => by cases hk; kernel_rfl) (by kernel_rfl)
      (by rw [MakeChecks.laidMetH_plain _ _ _ (by kernel_rfl)]; exact laidMet_laidAll _ (by kernel_rfl) (by kernel_rfl))) ?_
  intro W base args ds gs before hval0 hW hcnd hcond hsz hL hsh _
  have hk : Rows.uptoSmall H (ds ++ gs) = true := hcond _ rfl
  have hval : ∀ (j : Nat) t v, Tryd.f4.params[j]? = some t → args[j]? = some v → Value.okWide Tryd.prog W .any base t v := hval0
  have hW' := hW
  obtain ⟨p, q, hA0, hV, rfl, hfz, hnd⟩ := hW
  have hA : DataW.TrodAll enc Tryd.prog W 0 (fun _ => true) true Tryd.f4.params.toList args.toList ds p := hA0
  rw [Tryd.params4] at hA hval
  rw [MakeChecks.laidMetH_plain _ _ _ (by kernel_rfl)] at hL
  obtain ⟨ps, hL, hLn, hLc⟩ := hL
  obtain ⟨v0, vs0, d0, ds0, p0, q0, hargs, rfl, rfl, h0, r0⟩ := trodAll_cons hA
  obtain ⟨rfl, rfl, rfl⟩ := trodAll_nil r0
  obtain rfl : args = #[v0] := by cases args; simp_all
  obtain ⟨rfl, rfl⟩ := trodVars_none hV
  have lt0 : ∀ x ∈ p0, x.block < W.heap.size := by obtain ⟨m, hm⟩ := h0; exact DataW.trod_lt m _ _ _ hm
  obtain ⟨⟨bs, es⟩, cs, rfl, ⟨c0, c1, hcs, ⟨A, c, rfl, hl, hr⟩, ⟨A2, c2, rfl, hl2, hr2⟩⟩, hok⟩ := arg_struct Tryd.underlying25 (hval 0 _ v0 rfl rfl) h0 (bulk_arg hk (j := 0) rfl) (fun n => opens_state)
  obtain rfl : cs = #[.slice A bs.length c, .slice A2 es.length c2] := by cases cs; simpa using hcs
  obtain ⟨m, hm⟩ := cell_of_shapedOpen_int (g := 6) (zero := #[.int .i64 0]) hsh (of_decide_eq_true (by kernel_rfl)) (by kernel_rfl) (by kernel_rfl) (by kernel_rfl) (by kernel_rfl) Tryd.underlying3
  refine (boxSizes_walk A c bs A2 c2 es m W hr hl hr2 (okSt_of hok) hok.1.1 hok.2.1 (fun b hb => (hok.1.2 b hb).2.2.1) hm (lt_of_cell hm)).mono fun e W' ⟨he, bel⟩ => ?_
  subst he
  refine ⟨_, rfl, _, _, _, [], _, [], hW', trodAll_mk1 (shut_bool Tryd.underlying4 _), (trodAll_cons_mk (Below.trod laidOut (by kernel_rfl) (of_decide_eq_true (by kernel_rfl)) h0 bel lt0) trodAll_mk0), rfl, bel.frame _, fun h => by cases h⟩
theorem over : Rows.boxSizesUptoRow.holds Tryd.pinned (Rows.OpenSpec.upto Rows.boxSizesSpec) :=
  OpenClaim.holds_of_cond 4 Tryd.f4 rfl rfl rfl rfl rfl rfl rfl ⟨rfl, rfl, rfl, rfl, rfl⟩ rfl rfl rfl rfl rfl (by kernel_rfl) Tryd.func4 (by kernel_rfl)
    (of_decide_eq_true (by kernel_rfl)) (by unfold Func.isWrapper; first | (rw [if_pos (by decide +kernel)]; kernel_rfl) | (rw [if_neg (by decide +kernel)]; exact ⟨rfl, rfl⟩))
    (fun os started H enc _ F => by rw [OpenClaim.pre_eq_preRow]; exact lifted os started H enc F)
theorem card : Rows.BoxSizesUptoCardSaid :=
  Claim7.holds_tied_plain_at .later [] _ _ _ _ over (fun _ h => by cases h) (by kernel_rfl) (fun _ h => by cases h) boxSizesUpto_row_tie rfl ⟨rfl, rfl⟩ (by kernel_rfl) rfl
    (fun f fn hf hfn => by
      obtain rfl : f = 4 := Option.some.inj ((show Tryd.prog.funcNamed "postroom/postroomlaw.BoxSizes" = some 4 by kernel_rfl).symm.trans hf) |>.symm
      obtain rfl : fn = Tryd.f4 := (Option.some.inj (Tryd.func4.symm.trans hfn)).symm
      exact ⟨by kernel_rfl, fun j t ht => by
        have hm : t ∈ Tryd.f4.params.toList := by simpa using Array.mem_of_getElem? ht
        have hall : (Tryd.f4.params.toList.all fun u => !Tryd.prog.wantsStandIn u) = true := by kernel_rfl
        exact (show Tryd.prog.wantsStandIn t = false by simpa using List.all_eq_true.1 hall t hm)⟩)
    (by kernel_rfl)
end Go.Proofs.YtijdghplfhfpaaaDoor.boxSizes
namespace Go.Proofs.YtijdghplfhfpaaaDoor
theorem boxSizes_holds : Rows.BoxSizesUptoCardSaid := boxSizes.card
#print axioms boxSizes_holds
end Go.Proofs.YtijdghplfhfpaaaDoor
