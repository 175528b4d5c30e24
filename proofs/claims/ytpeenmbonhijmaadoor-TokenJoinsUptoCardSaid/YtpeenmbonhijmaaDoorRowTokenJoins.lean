/- The law TokenJoins answers true at every list of tokens of small bulk: token.Join answers as the reference's TokensJoined, and changes nothing. -/
import Derived.Test.YtpeenmbonhijmaaDoorCards
import Derived.Test.YtpeenmbonhijmaaDoorTie
import Derived.Test.YtpeenmbonhijmaaDoorOpensU
import Derived.Test.YtpeenmbonhijmaaDoorLaid
import Derived.Test.YtpeenmbonhijmaaDoorBase
import Derived.WalkKit
import Derived.ProofKit
import Derived.OpenShut
import Derived.ShutString
import Derived.ChangeOld
import Derived.Below
import Derived.Carry
import Derived.SevenTiedAt
import Derived.Test.YtpeenmbonhijmaaDoorKinds
import Derived.Test.YtpeenmbonhijmaaDoorJoinE
import Derived.Shelf.Vars
namespace Go.Proofs.YtpeenmbonhijmaaDoor.H
open Go.RowKit Go.Proofs.YtpeenmbonhijmaaDoorW.PrintWords Go.Proofs.YtpeenmbonhijmaaDoorW.PrintLast Go.Proofs.YtpeenmbonhijmaaDoorW.PrintMore Go.Proofs.YtpeenmbonhijmaaDoor.U
set_option linter.unusedVariables false
set_option linter.unusedSimpArgs false
set_option maxHeartbeats 1000000 in
set_option maxRecDepth 100000 in
theorem tokenJoins_walk (A : Option Addr) (c : Nat) (l : List AToken) (m : Int) (w : World) (hr : Kd.C kAToken w A l.length l) (hlen : l.length ≤ 1048576) (hs : ∀ t ∈ l, t.text.size ≤ 1048576) (hm : w.cell? ⟨0, 0, none⟩ = some (.int .i64 m)) (hg : 0 < w.heap.size) (htab : TabB w) :
    Calls Tryd.prog 12 #[.slice A l.length c] w fun e w' => e = .returned (.bool true) ∧ Below w.heap.size w w' := by
  have H0 := tokens_calls A c l w hr (by omega)
  have H1 := fun A c w hr hm hg ht => join_calls A c l m w hr hs hm hg ht
  have H2 := fun w hr => joined_calls A c l w hr hs
  generalize joinV l = r at *
  obtain ⟨s, n⟩ := r
  have H0 := Lib.hid H0
  have H1 := Lib.hid H1
  have H2 := Lib.hid H2
  go_enter Tryd.func12, Tryd.ntmps12
  go_wp2_with fail
  refine H0.out.mono ?_
  rintro e w1 ⟨A1, c1, rfl, hR1, hb1⟩
  have hC1 := C_ofR hR1
  have z1 := hb1.size
  go_wp2_with fail
  refine (H1.out A1 c1 _ hC1 (cell_below hb1 hm hg) (by omega) ?_).mono ?_
  · exact fun w' h' => htab w' (hb1.trans (h'.mono z1))
  rintro e w2 ⟨rfl, hb2⟩
  have z2 := hb2.size
  have hb12 := hb1.trans (hb2.mono z1)
  go_wp2_with fail
  refine (H2.out _ (Kd.C_below hr hb12)).mono ?_
  rintro e w3 ⟨rfl, hb3⟩
  have hb13 := hb12.trans (hb3.mono (by omega))
  have HS := Lib.hid (sameTokens_calls A1 c1 A c l w3 (Kd.C_below (Kd.C_below hC1 hb2) hb3) (Kd.C_below hr hb13))
  clear hR1 hC1 H0 H1 H2 hr htab
  go_wp2_with fail
  refine HS.out.mono ?_
  rintro e w4 ⟨rfl, hb4⟩
  go_wp2_with fail
  go_ret
  exact ⟨(by first | rfl | (simp; done) | (simp [*]; done) | (rw [if_pos (by omega)]; first | rfl | (simp; done)) | (rw [if_neg (by omega)]; first | rfl | (simp; done)) | (simp; omega)), hb13.trans (hb4.mono hb13.size)⟩
end Go.Proofs.YtpeenmbonhijmaaDoor.H
namespace Go.Proofs.YtpeenmbonhijmaaDoor.tokenJoins
open Go.ChangeShapes Go.WideShapes Go.ChangeAt Go.RowKit Go.Proofs.YtpeenmbonhijmaaDoorW.PrintWords Go.Proofs.YtpeenmbonhijmaaDoor.U Go.Proofs.YtpeenmbonhijmaaDoor.UB Go.Proofs.YtpeenmbonhijmaaDoor.H
open Go.ChangeMaps (open_string shut_string)
set_option linter.unusedVariables false
set_option maxRecDepth 100000
theorem own : ownKnob Tryd.prog.godebug = none := by kernel_rfl
theorem laidOut : laidOutB Tryd.prog = true := by kernel_rfl
def okAToken (x : AToken) : Prop := (Lit.int .i64 x.kind).wf = true ∧ x.text.size ≤ bulkTop ∧ (Lit.int .i64 x.number).wf = true
theorem opens_AToken {n : Nat} : OpensN Tryd.prog n 124 kAToken okAToken := by
  intro H enc W base spare held cs x h hm
  obtain ⟨⟨a0, a1, a2⟩, hk, ⟨h0_, h1_, h2_⟩⟩ := (opens_struct Tryd.underlying124 (len := 3) (by kernel_rfl) (fun _ _ => (opensF_cons rfl (by kernel_rfl) (opens_int Tryd.underlying3) (opensF_cons rfl (by kernel_rfl) (opens_string Tryd.underlying9) (opensF_one rfl (by kernel_rfl) (opens_int Tryd.underlying3)))))) enc W base spare held cs x h hm
  obtain ⟨_, _, rfl, rfl, ⟨_, _, rfl, rfl, rfl⟩⟩ := hk
  exact ⟨⟨a0, a1, a2⟩, rfl, h0_, h1_, h2_⟩
set_option maxRecDepth 100000 in
theorem lifted (os : Os) (started : os.Started) (H : Type) (enc : TypeId × Value → H) (F : Stop.Interp) :
    ReturnsInHanded {} Tryd.checked os 12 .any ((Rows.OpenSpec.upto Rows.tokenJoinsSpec).preRow enc Tryd.prog Tryd.f12 Rows.tokenJoinsUptoRow.domain false Rows.tokenJoinsUptoRow.laid) (((Rows.OpenSpec.upto Rows.tokenJoinsSpec).at F).post enc Tryd.prog Tryd.f12 false true false false) := by
  refine returnsInHanded_of_row (C := Tryd.checked) (s := Rows.OpenSpec.upto Rows.tokenJoinsSpec) own started (by kernel_rfl) Tryd.func12
    (witness_up (enc := enc) (C := Tryd.checked) (s := Rows.OpenSpec.upto Rows.tokenJoinsSpec) (laid := Rows.tokenJoinsUptoRow.laid) os #[.slice none 0 0] 8 (World.shaped_of_ZipB (by kernel_rfl) (by kernel_rfl)) (by kernel_rfl) ([.nil], [], []) (by kernel_rfl) (by kernel_rfl)
      (fun k hk => by cases hk; kernel_rfl) (by kernel_rfl)
      (by rw [MakeChecks.laidMetH_plain _ _ _ (by kernel_rfl)]; exact laidMet_laidAll _ (by kernel_rfl) (by kernel_rfl))) ?_
  intro W base args ds gs before hval0 hW hcnd hcond hsz hL hsh _
  have hk : Rows.uptoSmall H (ds ++ gs) = true := hcond _ rfl
  have hval : ∀ (j : Nat) t v, Tryd.f12.params[j]? = some t → args[j]? = some v → Value.okWide Tryd.prog W .any base t v := hval0
  have hW' := hW
  obtain ⟨p, q, hA0, hV, rfl, hfz, hnd⟩ := hW
  have hA : DataW.TrodAll enc Tryd.prog W 0 (fun _ => true) true Tryd.f12.params.toList args.toList ds p := hA0
  rw [Tryd.params12] at hA hval
  rw [MakeChecks.laidMetH_plain _ _ _ (by kernel_rfl)] at hL
  obtain ⟨ps, hL, hLn, hLc⟩ := hL
  obtain ⟨v0, vs0, d0, ds0, p0, q0, hargs, rfl, rfl, h0, r0⟩ := trodAll_cons hA
  obtain ⟨rfl, rfl, rfl⟩ := trodAll_nil r0
  obtain rfl : args = #[v0] := by cases args; simp_all
  obtain ⟨rfl, rfl⟩ := trodVars_none hV
  have lt0 : ∀ x ∈ p0, x.block < W.heap.size := by obtain ⟨m, hm⟩ := h0; exact DataW.trod_lt m _ _ _ hm
  obtain ⟨_, hL⟩ := vars_tail hL
  obtain ⟨_, hL⟩ := vars_tail hL
  have htab := tab_of_vars (name := "internal/strconv.uint64pow10") (g := 3) (k := .u64) (zs := Lib.pow10Tab) (by kernel_rfl) (by kernel_rfl) Tryd.underlying230 Tryd.underlying213 (by kernel_rfl) (by kernel_rfl) hL
  obtain ⟨l, A, c, rfl, hl, hr, hlen, hall⟩ := arg_slice Tryd.underlying67 (hval 0 _ v0 rfl rfl) h0 (bulk_arg hk (j := 0) rfl) (fun _ => opens_slice Tryd.underlying67 (by kernel_rfl) (fun _ _ => opens_AToken))
  obtain ⟨m, hm⟩ := cell_of_shapedOpen_int (g := 0) (zero := #[.int .i64 0]) hsh (of_decide_eq_true (by kernel_rfl)) (by kernel_rfl) (by kernel_rfl) (by kernel_rfl) (by kernel_rfl) Tryd.underlying3
  refine (tokenJoins_walk A c l m W hr hlen (fun t ht => (hall t ht).2.1) hm (lt_of_cell hm) (Lib.tabBelow_of_tabIs htab)).mono fun e W' ⟨he, bel⟩ => ?_
  subst he
  refine ⟨_, rfl, _, _, _, [], _, [], hW', trodAll_mk1 (shut_bool Tryd.underlying4 _), (trodAll_cons_mk (Below.trod laidOut (by kernel_rfl) (of_decide_eq_true (by kernel_rfl)) h0 bel lt0) trodAll_mk0), rfl, bel.frame _, fun h => by cases h⟩
theorem over : Rows.tokenJoinsUptoRow.holds Tryd.pinned (Rows.OpenSpec.upto Rows.tokenJoinsSpec) :=
  OpenClaim.holds_of_cond 12 Tryd.f12 rfl rfl rfl rfl rfl rfl rfl ⟨rfl, rfl, rfl, rfl, rfl⟩ rfl rfl rfl rfl rfl (by kernel_rfl) Tryd.func12 (by kernel_rfl)
    (of_decide_eq_true (by kernel_rfl)) (by unfold Func.isWrapper; first | (rw [if_pos (by decide +kernel)]; kernel_rfl) | (rw [if_neg (by decide +kernel)]; exact ⟨rfl, rfl⟩))
    (fun os started H enc _ F => by rw [OpenClaim.pre_eq_preRow]; exact lifted os started H enc F)
theorem card : Rows.TokenJoinsUptoCardSaid :=
  Claim7.holds_tied_plain_at .later [] _ _ _ _ over (fun _ h => by cases h) (by kernel_rfl) (fun _ h => by cases h) tokenJoinsUpto_row_tie rfl ⟨rfl, rfl⟩ (by kernel_rfl) rfl
    (fun f fn hf hfn => by
      obtain rfl : f = 12 := Option.some.inj ((show Tryd.prog.funcNamed "postroom/postroomlaw.TokenJoins" = some 12 by kernel_rfl).symm.trans hf) |>.symm
      obtain rfl : fn = Tryd.f12 := (Option.some.inj (Tryd.func12.symm.trans hfn)).symm
      exact ⟨by kernel_rfl, fun j t ht => by
        have hm : t ∈ Tryd.f12.params.toList := by simpa using Array.mem_of_getElem? ht
        have hall : (Tryd.f12.params.toList.all fun u => !Tryd.prog.wantsStandIn u) = true := by kernel_rfl
        exact (show Tryd.prog.wantsStandIn t = false by simpa using List.all_eq_true.1 hall t hm)⟩)
    (by kernel_rfl)
end Go.Proofs.YtpeenmbonhijmaaDoor.tokenJoins
namespace Go.Proofs.YtpeenmbonhijmaaDoor
theorem tokenJoins_holds : Rows.TokenJoinsUptoCardSaid := tokenJoins.card
#print axioms tokenJoins_holds
end Go.Proofs.YtpeenmbonhijmaaDoor
