/- The law JudgeChecks answers true at every letter of small bulk: judge.Check answers as the reference's LetterOf. -/
import Derived.Test.YtpeenmbonhijmaaDoorCards
import Derived.Test.YtpeenmbonhijmaaDoorTie
import Derived.Test.YtpeenmbonhijmaaDoorOpensU
import Derived.Test.YtpeenmbonhijmaaDoorLaid
import Derived.Test.YtpeenmbonhijmaaDoorBase
import Derived.WalkKit
import Derived.ProofKit
import Derived.OpenShut
import Derived.ShutString
import Derived.ChangeOld
import Derived.Below
import Derived.Carry
import Derived.SevenTiedAt
import Derived.Test.YtpeenmbonhijmaaDoorKinds
import Derived.Test.YtpeenmbonhijmaaDoorJudgeA
import Derived.Shelf.Vars
namespace Go.Proofs.YtpeenmbonhijmaaDoor.H
open Go.RowKit Go.Proofs.YtpeenmbonhijmaaDoorW.PrintWords Go.Proofs.YtpeenmbonhijmaaDoorW.PrintLast Go.Proofs.YtpeenmbonhijmaaDoorW.PrintMore Go.Proofs.YtpeenmbonhijmaaDoor.U
set_option linter.unusedVariables false
set_option linter.unusedSimpArgs false
set_option maxHeartbeats 1000000 in
set_option maxRecDepth 100000 in
theorem judgeChecks_walk (a b c d t : ByteArray) (m : Int) (w : World) (ha : a.size ≤ 1048576) (hb : b.size ≤ 1048576) (hc : c.size ≤ 1048576) (hd : d.size ≤ 1048576) (ht : t.size ≤ 1048576) (hm : w.cell? ⟨0, 0, none⟩ = some (.int .i64 m)) (hg : 0 < w.heap.size) :
    Calls Tryd.prog 10 #[.agg #[.string a, .string b, .string c, .string d, .string t]] w fun e w' => e = .returned (.bool true) ∧ Below w.heap.size w w' := by
  have H1 := fun w hm hg => judgeCheck_calls a b c d t m w ha hb hc hd ht hm hg
  have H2 := fun w => letterOf_calls a b c d t w ha hb hc hd ht
  generalize letterV a b c d t = r at *
  obtain ⟨n, l, bd⟩ := r
  have H1 := Lib.hid H1
  have H2 := Lib.hid H2
  have hblk0 := Blk.made w #[.string a, .string b, .string c, .string d, .string t] 56
  have hB0 : Below w.heap.size w (w.alloc (.cells #[.string a, .string b, .string c, .string d, .string t] 56)) := (by repeat (first | exact Below.refl _ _ | apply below_alloc | apply pw_below_drewN | apply below_drew1 | (refine Below.setCell ?_ (by first | (simp; done) | (simp; omega) | omega) _) ))
  have hz0 : (w.alloc (.cells #[.string a, .string b, .string c, .string d, .string t] 56)).heap.size = w.heap.size + 1 := by simp
  go_enter Tryd.func10, Tryd.ntmps10
  go_wp2_with fail
  refine (H1.out _ (cell_below hB0 hm hg) (by omega)).mono ?_
  intro e w1 hw1
  obtain ⟨v, rfl, hR1, hb1⟩ := hw1
  simp only at hR1 ⊢
  obtain ⟨A1, c1, rfl, _, hC1⟩ := C_of hR1
  have hblk1 := hblk0.below hb1 (by omega)
  have hB1 := hB0.trans (hb1.mono (by omega))
  have hz1 := hb1.size
  have hzz : w.heap.size < w1.heap.size := by omega
  have h0 := hblk1.at 0 _ rfl
  have h1 := hblk1.at 1 _ rfl
  have h2 := hblk1.at 2 _ rfl
  have h3 := hblk1.at 3 _ rfl
  have h4 := hblk1.at 4 _ rfl
  clear hblk0 hB0
  go_wp2_with fail
  refine (H2.out _).mono ?_
  intro e w2 hw2
  obtain ⟨v2, rfl, hR2, hb2⟩ := hw2
  simp only at hR2 ⊢
  obtain ⟨A2, c2, rfl, _, hC2⟩ := C_of hR2
  have hs2 : w1.heap.size < w2.heap.size := (by have := hb2.size; simp at this; omega)
  have x0 : w2.cell? ⟨w1.heap.size, 0, none⟩ = some (.slice A1 l.length c1) := (hb2.cell (p := ⟨w1.heap.size, 0, none⟩) (by simp)).trans (by simp)
  have x1 : w2.cell? ⟨w1.heap.size, 1, none⟩ = some (.string bd) := (hb2.cell (p := ⟨w1.heap.size, 1, none⟩) (by simp)).trans (by simp)
  have hB2 : Below w.heap.size w w2 := (by repeat (first | exact Below.refl _ _ | apply below_alloc | apply pw_below_drewN | apply below_drew1 | (refine Below.setCell ?_ (by first | (simp; done) | (simp; omega) | omega) _) | (refine below_then ?_ (by first | (simp; done) | (simp; omega) | omega) hb2) | exact hB1))
  have hC1' : Kd.C kAField w2 A1 l.length l := Kd.C_below (Kd.C_below hC1 (by repeat (first | exact Below.refl _ _ | apply below_alloc | apply pw_below_drewN | apply below_drew1 | (refine Below.setCell ?_ (by first | (simp; done) | (simp; omega) | omega) _) ))) hb2
  have HS := Lib.hid (fun w3 (h : Below w2.heap.size w2 w3) => sameMessage_calls A1 c1 A2 c2 l bd w3 (Kd.C_below hC1' h) (Kd.C_below hC2 h))
  clear hR1 hR2 H1 H2 hC1 hC2 hC1' hb1 hb2 h0 h1 h2 h3 h4 hblk1
  go_wp2_with fail
  refine (HS.out _ (by repeat (first | exact Below.refl _ _ | apply below_alloc | apply pw_below_drewN | apply below_drew1 | (refine Below.setCell ?_ (by first | (simp; done) | (simp; omega) | omega) _) ))).mono ?_
  rintro e w3 ⟨rfl, hb3⟩
  go_wp2_with fail
  go_ret
  exact ⟨(by first | rfl | (simp; done) | (simp [*]; done) | (rw [if_pos (by omega)]; first | rfl | (simp; done)) | (rw [if_neg (by omega)]; first | rfl | (simp; done)) | (simp; omega)), (by repeat (first | exact Below.refl _ _ | apply below_alloc | apply pw_below_drewN | apply below_drew1 | (refine Below.setCell ?_ (by first | (simp; done) | (simp; omega) | omega) _) | (refine below_then ?_ (by first | (simp; done) | (simp; omega) | omega) hb3) | exact hB2))⟩
end Go.Proofs.YtpeenmbonhijmaaDoor.H
namespace Go.Proofs.YtpeenmbonhijmaaDoor.judgeChecks
open Go.ChangeShapes Go.WideShapes Go.ChangeAt Go.RowKit Go.Proofs.YtpeenmbonhijmaaDoorW.PrintWords Go.Proofs.YtpeenmbonhijmaaDoor.U Go.Proofs.YtpeenmbonhijmaaDoor.UB Go.Proofs.YtpeenmbonhijmaaDoor.H
open Go.ChangeMaps (open_string shut_string)
set_option linter.unusedVariables false
set_option maxRecDepth 100000
theorem own : ownKnob Tryd.prog.godebug = none := by kernel_rfl
theorem laidOut : laidOutB Tryd.prog = true := by kernel_rfl
def okAAddress (x : AAddress) : Prop := x.loc.size ≤ bulkTop ∧ x.dom.size ≤ bulkTop
theorem opens_AAddress {n : Nat} : OpensN Tryd.prog n 23 kAAddress okAAddress := by
  intro H enc W base spare held cs x h hm
  obtain ⟨⟨a0, a1⟩, hk, ⟨h0_, h1_⟩⟩ := (opens_struct Tryd.underlying23 (len := 2) (by kernel_rfl) (fun _ _ => (opensF_cons rfl (by kernel_rfl) (opens_string Tryd.underlying9) (opensF_one rfl (by kernel_rfl) (opens_string Tryd.underlying9))))) enc W base spare held cs x h hm
  obtain ⟨_, _, rfl, rfl, rfl⟩ := hk
  exact ⟨⟨a0, a1⟩, rfl, h0_, h1_⟩
def okALetter (x : ALetter) : Prop := x.from_.loc.size ≤ bulkTop ∧ x.from_.dom.size ≤ bulkTop ∧ x.to_.loc.size ≤ bulkTop ∧ x.to_.dom.size ≤ bulkTop ∧ x.text.size ≤ bulkTop
theorem opens_ALetter {n : Nat} : OpensN Tryd.prog n 56 kALetter okALetter := by
  intro H enc W base spare held cs x h hm
  obtain ⟨⟨a0, a1, a2⟩, hk, ⟨h0_, h1_, h2_⟩⟩ := (opens_struct Tryd.underlying56 (len := 5) (by kernel_rfl) (fun _ _ => (opensF_cons rfl (by kernel_rfl) opens_AAddress (opensF_cons rfl (by kernel_rfl) opens_AAddress (opensF_one rfl (by kernel_rfl) (opens_string Tryd.underlying9)))))) enc W base spare held cs x h hm
  obtain ⟨_, _, rfl, rfl, ⟨_, _, rfl, rfl, rfl⟩⟩ := hk
  exact ⟨⟨a0, a1, a2⟩, rfl, h0_.1, h0_.2, h1_.1, h1_.2, h2_⟩
set_option maxRecDepth 100000 in
theorem lifted (os : Os) (started : os.Started) (H : Type) (enc : TypeId × Value → H) (F : Stop.Interp) :
    ReturnsInHanded {} Tryd.checked os 10 .any ((Rows.OpenSpec.upto Rows.judgeChecksSpec).preRow enc Tryd.prog Tryd.f10 Rows.judgeChecksUptoRow.domain false Rows.judgeChecksUptoRow.laid) (((Rows.OpenSpec.upto Rows.judgeChecksSpec).at F).post enc Tryd.prog Tryd.f10 false true false false) := by
  refine returnsInHanded_of_row (C := Tryd.checked) (s := Rows.OpenSpec.upto Rows.judgeChecksSpec) own started (by kernel_rfl) Tryd.func10
    (witness_up (enc := enc) (C := Tryd.checked) (s := Rows.OpenSpec.upto Rows.judgeChecksSpec) (laid := Rows.judgeChecksUptoRow.laid) os #[.agg #[.string ByteArray.empty, .string ByteArray.empty, .string ByteArray.empty, .string ByteArray.empty, .string ByteArray.empty]] 8 (World.shaped_of_ZipB (by kernel_rfl) (by kernel_rfl)) (by kernel_rfl) ([.agg [.agg [.lit (.string []), .lit (.string [])], .agg [.lit (.string []), .lit (.string [])], .lit (.string [])]], [], []) (by kernel_rfl) (by kernel_rfl)
      (fun k hk => by cases hk; kernel_rfl) (by kernel_rfl)
      (by rw [MakeChecks.laidMetH_plain _ _ _ (by kernel_rfl)]; exact laidMet_laidAll _ (by kernel_rfl) (by kernel_rfl))) ?_
  intro W base args ds gs before hval0 hW hcnd hcond hsz hL hsh _
  have hk : Rows.uptoSmall H (ds ++ gs) = true := hcond _ rfl
  have hval : ∀ (j : Nat) t v, Tryd.f10.params[j]? = some t → args[j]? = some v → Value.okWide Tryd.prog W .any base t v := hval0
  have hW' := hW
  obtain ⟨p, q, hA0, hV, rfl, hfz, hnd⟩ := hW
  have hA : DataW.TrodAll enc Tryd.prog W 0 (fun _ => true) true Tryd.f10.params.toList args.toList ds p := hA0
  rw [Tryd.params10] at hA hval
  rw [MakeChecks.laidMetH_plain _ _ _ (by kernel_rfl)] at hL
  obtain ⟨ps, hL, hLn, hLc⟩ := hL
  obtain ⟨v0, vs0, d0, ds0, p0, q0, hargs, rfl, rfl, h0, r0⟩ := trodAll_cons hA
  obtain ⟨rfl, rfl, rfl⟩ := trodAll_nil r0
  obtain rfl : args = #[v0] := by cases args; simp_all
  obtain ⟨rfl, rfl⟩ := trodVars_none hV
  have lt0 : ∀ x ∈ p0, x.block < W.heap.size := by obtain ⟨m, hm⟩ := h0; exact DataW.trod_lt m _ _ _ hm
  obtain ⟨t, cs, rfl, hcs, hok⟩ := arg_struct Tryd.underlying56 (hval 0 _ v0 rfl rfl) h0 (bulk_arg hk (j := 0) rfl) (fun _ => opens_ALetter)
  obtain rfl : cs = #[.string t.from_.loc, .string t.from_.dom, .string t.to_.loc, .string t.to_.dom, .string t.text] := by have hc2 : cs.toList = t.enc := hcs; cases cs; simpa [ALetter.enc] using hc2
  obtain ⟨m, hm⟩ := cell_of_shapedOpen_int (g := 0) (zero := #[.int .i64 0]) hsh (of_decide_eq_true (by kernel_rfl)) (by kernel_rfl) (by kernel_rfl) (by kernel_rfl) (by kernel_rfl) Tryd.underlying3
  refine (judgeChecks_walk t.from_.loc t.from_.dom t.to_.loc t.to_.dom t.text m W hok.1 hok.2.1 hok.2.2.1 hok.2.2.2.1 hok.2.2.2.2 hm (lt_of_cell hm)).mono fun e W' ⟨he, bel⟩ => ?_
  subst he
  refine ⟨_, rfl, _, _, _, [], _, [], hW', trodAll_mk1 (shut_bool Tryd.underlying4 _), (trodAll_cons_mk (Below.trod laidOut (by kernel_rfl) (of_decide_eq_true (by kernel_rfl)) h0 bel lt0) trodAll_mk0), rfl, bel.frame _, fun h => by cases h⟩
theorem over : Rows.judgeChecksUptoRow.holds Tryd.pinned (Rows.OpenSpec.upto Rows.judgeChecksSpec) :=
  OpenClaim.holds_of_cond 10 Tryd.f10 rfl rfl rfl rfl rfl rfl rfl ⟨rfl, rfl, rfl, rfl, rfl⟩ rfl rfl rfl rfl rfl (by kernel_rfl) Tryd.func10 (by kernel_rfl)
    (of_decide_eq_true (by kernel_rfl)) (by unfold Func.isWrapper; first | (rw [if_pos (by decide +kernel)]; kernel_rfl) | (rw [if_neg (by decide +kernel)]; exact ⟨rfl, rfl⟩))
    (fun os started H enc _ F => by rw [OpenClaim.pre_eq_preRow]; exact lifted os started H enc F)
theorem card : Rows.JudgeChecksUptoCardSaid :=
  Claim7.holds_tied_plain_at .later [] _ _ _ _ over (fun _ h => by cases h) (by kernel_rfl) (fun _ h => by cases h) judgeChecksUpto_row_tie rfl ⟨rfl, rfl⟩ (by kernel_rfl) rfl
    (fun f fn hf hfn => by
      obtain rfl : f = 10 := Option.some.inj ((show Tryd.prog.funcNamed "postroom/postroomlaw.JudgeChecks" = some 10 by kernel_rfl).symm.trans hf) |>.symm
      obtain rfl : fn = Tryd.f10 := (Option.some.inj (Tryd.func10.symm.trans hfn)).symm
      exact ⟨by kernel_rfl, fun j t ht => by
        have hm : t ∈ Tryd.f10.params.toList := by simpa using Array.mem_of_getElem? ht
        have hall : (Tryd.f10.params.toList.all fun u => !Tryd.prog.wantsStandIn u) = true := by kernel_rfl
        exact (show Tryd.prog.wantsStandIn t = false by simpa using List.all_eq_true.1 hall t hm)⟩)
    (by kernel_rfl)
end Go.Proofs.YtpeenmbonhijmaaDoor.judgeChecks
namespace Go.Proofs.YtpeenmbonhijmaaDoor
theorem judgeChecks_holds : Rows.JudgeChecksUptoCardSaid := judgeChecks.card
#print axioms judgeChecks_holds
end Go.Proofs.YtpeenmbonhijmaaDoor
