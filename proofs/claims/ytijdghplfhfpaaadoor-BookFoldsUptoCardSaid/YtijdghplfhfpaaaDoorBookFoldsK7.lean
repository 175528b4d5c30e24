/- The claim BookFoldsUptoCardSaid, part 7 of 7. -/
import Derived.Test.YtijdghplfhfpaaaDoorBookFoldsK5
import Derived.Test.YtijdghplfhfpaaaDoorBookFoldsK1
import Derived.Test.YtijdghplfhfpaaaDoorBookFoldsK2
import Derived.Test.YtijdghplfhfpaaaDoorCards
import Derived.Test.YtijdghplfhfpaaaDoorTie
import Derived.WalkKit
import Derived.ProofKit
import Derived.OpenShut
import Derived.ShutString
import Derived.ChangeOld
import Derived.Below
import Derived.Carry
import Derived.SevenTiedAt
import Derived.Test.YtijdghplfhfpaaaDoorBookFoldsK6
import Derived.Shelf.Vars
/- States: sameState. -/
namespace Go.Proofs.YtijdghplfhfpaaaDoor.H
open Go.RowKit Go.Proofs.YtijdghplfhfpaaaDoorW.PrintWords Go.Proofs.YtijdghplfhfpaaaDoorW.PrintLast Go.Proofs.YtijdghplfhfpaaaDoor.U
set_option linter.unusedVariables false
set_option linter.unusedSimpArgs false
def eqbAMail (x y : AMail) : Bool := x.uid == y.uid && (x.flags == y.flags && (x.text.toList == y.text.toList))
theorem eqbAMail_iff {x y : AMail} : eqbAMail x y = true ↔ x = y := by
  cases x; cases y
  simp only [eqbAMail, Bool.and_eq_true, beq_iff_eq, ByteArray.toList_eq, bytes_iff, AMail.mk.injEq]
theorem eqbAMail_self (x : AMail) : eqbAMail x x = true := eqbAMail_iff.2 rfl
theorem eqAMail (d : Nat) (w : World) (x_uid : Int) (x_flags : Int) (x_text : ByteArray) (y_uid : Int) (y_flags : Int) (y_text : ByteArray) :
    (Op.equalIn (d + 2) 84 (.agg #[.int .i64 x_uid, .int .i64 x_flags, .string x_text]) (.agg #[.int .i64 y_uid, .int .i64 y_flags, .string y_text])).run Tryd.prog w = .ok (eqbAMail ⟨x_uid, x_flags, x_text⟩ ⟨y_uid, y_flags, y_text⟩) w := by
  refine eqA_of Tryd.underlying84 (by kernel_rfl) ?_
  refine eqf_cons (by rfl) (by go_simp; rfl) (by go_simp; rfl) (by go_simp) ?_
  refine eqf_cons (by rfl) (by go_simp; rfl) (by go_simp; rfl) (by go_simp) ?_
  exact eqf_last (by rfl) (by go_simp; rfl) (by go_simp; rfl) (by go_simp)
attribute [local go_sem high] eqAMail eqbAMail_self
set_option maxHeartbeats 2000000 in
set_option maxRecDepth 100000 in
theorem sameState_calls (A : Option Addr) (c : Nat) (A2 : Option Addr) (c2 : Nat) (B : Option Addr) (d : Nat) (B2 : Option Addr) (d2 : Nat) (bs : List ABox) (es : List AEntry) (w : World) (hr : kBox.C w A bs.length bs) (hr2 : Kd.C kAEntry w A2 es.length es) (hs : kBox.C w B bs.length bs) (hs2 : Kd.C kAEntry w B2 es.length es) :
    Calls Tryd.prog 21 #[.agg #[.slice A bs.length c, .slice A2 es.length c2], .agg #[.slice B bs.length d, .slice B2 es.length d2]] w fun e w' => e = .returned (.bool true) ∧ Below w.heap.size w w' := by
  have h63 := hr.2.1
  obtain ⟨W2, hW2⟩ : ∃ W2 : World, W2 = (w.alloc (.cells #[.slice A bs.length c, .slice A2 es.length c2] 25)).alloc (.cells #[.slice B bs.length d, .slice B2 es.length d2] 25) := ⟨_, rfl⟩
  have hP0 : Blk W2 w.heap.size [.slice A bs.length c, .slice A2 es.length c2] := by rw [hW2]; exact (Blk.made w _ _).alloc _
  have hQ0 : Blk W2 (w.heap.size + 1) [.slice B bs.length d, .slice B2 es.length d2] := by rw [hW2]; exact Blk.made_at _ _ _ (by simp)
  have hB0 : Below w.heap.size w W2 := by rw [hW2]; exact (by repeat (first | exact Below.refl _ _ | apply below_alloc | apply pw_below_drewN | apply below_drew1 | (refine Below.setCell ?_ (by first | (simp; done) | (simp; omega) | omega) _) ))
  have hz0 : W2.heap.size = w.heap.size + 2 := by rw [hW2]; simp
  replace hW2 := Lib.hid hW2
  have HE := Lib.hid (sameEntries_calls A2 c2 B2 d2 es W2 (Kd.C_below hr2 hB0) (Kd.C_below hs2 hB0))
  go_enter Tryd.func21, Tryd.ntmps21
  go_wp2_with fail
  rw [← hW2.out]
  refine HE.out.mono ?_
  rintro e w1 ⟨rfl, hb1⟩
  have hP1 := hP0.below hb1 (by omega)
  have hQ1 := hQ0.below hb1 (by omega)
  have hB1 := hB0.trans (hb1.mono (by omega))
  clear hP0 hQ0 hB0
  go_wp2_with fail
  go_loopw [5] (fun i wr => ∃ k : Nat, k ≤ bs.length ∧ i = .int .i64 k ∧ Blk wr w.heap.size [.slice A bs.length c, .slice A2 es.length c2] ∧ Blk wr (w.heap.size + 1) [.slice B bs.length d, .slice B2 es.length d2] ∧ Below w.heap.size w wr) (fun i _ => bs.length - (intOf i).toNat)
  case atStart => exact ⟨0, Nat.zero_le _, rfl, hP1, hQ1, hB1⟩
  case round =>
    clear hP1 hQ1 hB1
    obtain ⟨k, hk, rfl, hP, hQ, hB⟩ := hrel
    have hzp := hP.lt
    have hzq := hQ.lt
    have p0 := hP.at 0 _ rfl
    have q0 := hQ.at 0 _ rfl
    by_cases hlt : k < bs.length
    · obtain ⟨ad, Ae, ce, e1, x0, x1, x2, hC⟩ := box_at (Kd.C_below hr hB) k hlt
      obtain ⟨ad2, Be, de, e2, y0, y1, y2, hD⟩ := box_at (Kd.C_below hs hB) k hlt
      subst e1 e2
      rw [add1] at x1 y1
      rw [add2] at x2 y2
      obtain ⟨nm, nx, l, hbk⟩ : ∃ nm nx l, bs[k] = (nm, nx, l) := ⟨_, _, _, rfl⟩
      rw [hbk] at x0 x1 x2 y0 y1 y2 hC hD
      simp only at x0 x1 x2 y0 y1 y2 hC hD
      clear hbk
      have i0 : (0 : Int) ≤ (k : Int) := by omega
      have i1 : (k : Int) < (bs.length : Int) := by omega
      have hl63 := hC.2.1
      obtain ⟨W0, rfl⟩ : ∃ W0 : World, W0 = wr := ⟨_, rfl⟩
      have y0a := cell_alloc' y0 (.cells #[.string nm, .int .i64 nx, .slice Ae l.length ce] 77)
      have y1a := cell_alloc' y1 (.cells #[.string nm, .int .i64 nx, .slice Ae l.length ce] 77)
      have y2a := cell_alloc' y2 (.cells #[.string nm, .int .i64 nx, .slice Ae l.length ce] 77)
      obtain ⟨Wx, hWx⟩ : ∃ Wx : World, Wx = (W0.alloc (.cells #[.string nm, .int .i64 nx, .slice Ae l.length ce] 77)).alloc (.cells #[.string nm, .int .i64 nx, .slice Be l.length de] 77) := ⟨_, rfl⟩
      have hX : Blk Wx W0.heap.size [.string nm, .int .i64 nx, .slice Ae l.length ce] := by rw [hWx]; exact (Blk.made _ _ _).alloc _
      have hY : Blk Wx (W0.heap.size + 1) [.string nm, .int .i64 nx, .slice Be l.length de] := by rw [hWx]; exact Blk.made_at _ _ _ (by simp)
      have hbx : Below W0.heap.size W0 Wx := by rw [hWx]; exact (by repeat (first | exact Below.refl _ _ | apply below_alloc | apply pw_below_drewN | apply below_drew1 | (refine Below.setCell ?_ (by first | (simp; done) | (simp; omega) | omega) _) ))
      have hCx := Kd.C_below hC hbx
      have hDx := Kd.C_below hD hbx
      replace hWx := Lib.hid hWx
      go_wp2_with fail
      rw [← hWx.out]
      go_loopw [8] (fun i wz => ∃ j q : Nat, j ≤ l.length ∧ i = .int .i64 j ∧ wz = Wx.drewN q) (fun i _ => l.length - (intOf i).toNat)
      case atStart => exact ⟨0, 0, Nat.zero_le _, rfl, rfl⟩
      case round =>
        obtain ⟨j, q, hj, rfl, rfl⟩ := hrel
        have x2' := hX.at 2 _ rfl
        have y2' := hY.at 2 _ rfl
        by_cases hlj : j < l.length
        · obtain ⟨ad3, e3, hx0, hxj⟩ := flat_at hCx j hlj
          obtain ⟨ad4, e4, hy0, hyj⟩ := flat_at hDx j hlj
          subst e3 e4
          have m0 := hx0 _ rfl; have m1 := hxj 1 _ (by decide) rfl; have m2 := hxj 2 _ (by decide) rfl
          have n0 := hy0 _ rfl; have n1 := hyj 1 _ (by decide) rfl; have n2 := hyj 2 _ (by decide) rfl
          clear hx0 hxj hy0 hyj
          have j0 : (0 : Int) ≤ (j : Int) := by omega
          have j1 : (j : Int) < (l.length : Int) := by omega
          go_wp2_with fail
          go_quiet (fail)
          go_wp2_with fail
          go_roundw
          case rel => exact ⟨j + 1, _, by omega, by go_num, rfl⟩
          case measure => simp [intOf]; omega
        · obtain rfl : j = l.length := by omega
          have j1 : ¬ (l.length : Int) < (l.length : Int) := by omega
          have hbq : Below W0.heap.size W0 (Wx.drewN q) := pw_below_drewN hbx q
          go_wp2_with fail
          go_roundw
          case rel => exact ⟨k + 1, hlt, by go_num, hP.below hbq hzp, hQ.below hbq hzq, hB.trans (hbq.mono hB.size)⟩
          case measure => simp [intOf]; omega
    · obtain rfl : k = bs.length := by omega
      have i1 : ¬ (bs.length : Int) < (bs.length : Int) := by omega
      go_wp2_with fail
      go_ret
      exact ⟨(by first | rfl | (simp; done) | (simp [*]; done) | (rw [if_pos (by omega)]; first | rfl | (simp; done)) | (rw [if_neg (by omega)]; first | rfl | (simp; done)) | (simp; omega)), hB⟩
end Go.Proofs.YtijdghplfhfpaaaDoor.H

/- States as arguments: how they are read. -/
namespace Go.Proofs.YtijdghplfhfpaaaDoor.H
open Go.RowKit Go.Proofs.YtijdghplfhfpaaaDoorW.PrintWords Go.ChangeShapes Go.WideShapes Go.Proofs.YtijdghplfhfpaaaDoor.U Go.Proofs.YtijdghplfhfpaaaDoor.UB
set_option linter.unusedVariables false
def okAEntry (x : AEntry) : Prop := (Lit.int .i64 x.kind).wf = true ∧ x.box.size ≤ bulkTop ∧ (Lit.int .i64 x.uid).wf = true ∧ (Lit.int .i64 x.flags).wf = true ∧ x.to_.size ≤ bulkTop ∧ x.text.size ≤ bulkTop
theorem opens_AEntry {n : Nat} : OpensN Tryd.prog n 40 kAEntry okAEntry := by
  intro H enc W base spare held cs x h hm
  obtain ⟨⟨a0, a1, a2, a3, a4, a5⟩, hk, ⟨h0_, h1_, h2_, h3_, h4_, h5_⟩⟩ := (opens_struct Tryd.underlying40 (len := 6) (by kernel_rfl) (fun _ _ => (opensF_cons rfl (by kernel_rfl) (opens_int Tryd.underlying3) (opensF_cons rfl (by kernel_rfl) (opens_string Tryd.underlying9) (opensF_cons rfl (by kernel_rfl) (opens_int Tryd.underlying3) (opensF_cons rfl (by kernel_rfl) (opens_int Tryd.underlying3) (opensF_cons rfl (by kernel_rfl) (opens_string Tryd.underlying9) (opensF_one rfl (by kernel_rfl) (opens_string Tryd.underlying9))))))))) enc W base spare held cs x h hm
  obtain ⟨_, _, rfl, rfl, ⟨_, _, rfl, rfl, ⟨_, _, rfl, rfl, ⟨_, _, rfl, rfl, ⟨_, _, rfl, rfl, rfl⟩⟩⟩⟩⟩ := hk
  exact ⟨⟨a0, a1, a2, a3, a4, a5⟩, rfl, h0_, h1_, h2_, h3_, h4_, h5_⟩
end Go.Proofs.YtijdghplfhfpaaaDoor.H

/- The law BookFolds answers true at every list of batches of small bulk and every user: book.Fold answers as the reference's BatchesFolded, and changes nothing. -/
namespace Go.Proofs.YtijdghplfhfpaaaDoor.H
open Go.RowKit Go.Proofs.YtijdghplfhfpaaaDoorW.PrintWords Go.Proofs.YtijdghplfhfpaaaDoorW.PrintLast Go.Proofs.YtijdghplfhfpaaaDoor.U
set_option linter.unusedVariables false
set_option linter.unusedSimpArgs false
set_option maxHeartbeats 2000000 in
set_option maxRecDepth 100000 in
theorem bookFolds_walk (A : Option Addr) (c : Nat) (l : List ABatch) (u : Int) (m : Int) (w : World) (hr : kBt.C w A l.length l) (hl : l.length ≤ 1048576) (hle : ∀ b ∈ l, b.2.length ≤ 1048576) (hsl : ∀ b ∈ l, ∀ x ∈ b.2, okE x)
    (hm : w.cell? ⟨6, 0, none⟩ = some (.int .i64 m)) (hg : 6 < w.heap.size) :
    Calls Tryd.prog 7 #[.slice A l.length c, .int .i64 u] w fun e w' => e = .returned (.bool true) ∧ Below w.heap.size w w' := by
  have HB := Lib.hid (batches_calls A c l w hr hl hle)
  have H1 := fun A c w hr hm hg => fold_calls A c l u m w hr hsl hm hg
  have H2 := fun w hr => batchesFolded_calls A c l u w hr hsl
  generalize foldV l u = R at *
  obtain ⟨rf, rb, re⟩ := R
  replace H1 := Lib.hid H1
  replace H2 := Lib.hid H2
  go_enter Tryd.func7, Tryd.ntmps7
  go_wp2_with fail
  refine HB.out.mono ?_
  rintro e w1 ⟨v1, rfl, hR1, hb1⟩
  obtain ⟨A1, c1, rfl, hc1, hC1⟩ := C_of hR1
  have hz1 := hb1.size
  clear hR1
  go_wp2_with fail
  refine (H1.out _ _ _ hC1 (cell_below hb1 hm hg) (by omega)).mono ?_
  intro e w2 hw2
  obtain ⟨A2, c2, A3, c3, rfl, _, hrd2, hb2⟩ := hw2
  simp only at hrd2 ⊢
  have hz2 := hb2.size
  obtain ⟨W3, hW3⟩ : ∃ W3 : World, W3 = w2.alloc (.cells #[.slice A2 rb.length c2, .slice A3 re.length c3] 25) := ⟨_, rfl⟩
  have ha3 : Blk W3 w2.heap.size [.slice A2 rb.length c2, .slice A3 re.length c3] := by rw [hW3]; exact Blk.made _ _ _
  have hb23 : Below w2.heap.size w2 W3 := by rw [hW3]; exact (by repeat (first | exact Below.refl _ _ | apply below_alloc | apply pw_below_drewN | apply below_drew1 | (refine Below.setCell ?_ (by first | (simp; done) | (simp; omega) | omega) _) ))
  have hrd3 := hrd2.below hb23
  have hb13 : Below w1.heap.size w1 W3 := hb2.trans (hb23.mono (by omega))
  have hB3 := hb1.trans (hb13.mono (by omega))
  have hz3 : W3.heap.size = w2.heap.size + 1 := by rw [hW3]; simp
  have hC1b := Kd.C_below hC1 hb13
  replace hW3 := Lib.hid hW3
  clear hrd2 hb2 hb23 hC1
  go_wp2_with fail
  rw [← hW3.out]
  refine (H2.out _ (Kd.C_below hr hB3)).mono ?_
  intro e w4 hw4
  obtain ⟨A5, c5, A6, c6, rfl, hrd4, hb4⟩ := hw4
  simp only at hrd4 ⊢
  have hz4 := hb4.size
  obtain ⟨W5, hW5⟩ : ∃ W5 : World, W5 = w4.alloc (.cells #[.slice A5 rb.length c5, .slice A6 re.length c6] 25) := ⟨_, rfl⟩
  have hb45 : Below w4.heap.size w4 W5 := by rw [hW5]; exact (by repeat (first | exact Below.refl _ _ | apply below_alloc | apply pw_below_drewN | apply below_drew1 | (refine Below.setCell ?_ (by first | (simp; done) | (simp; omega) | omega) _) ))
  have hb35 : Below W3.heap.size W3 W5 := hb4.trans (hb45.mono (by omega))
  have hz5 : W5.heap.size = w4.heap.size + 1 := by rw [hW5]; simp
  have a0 := (ha3.below hb4 (by omega)).at 0 _ rfl
  have a1 := (ha3.below hb4 (by omega)).at 1 _ rfl
  have az : w2.heap.size < w4.heap.size := by omega
  have r1 := (hrd3.below hb35).now
  have r2 := (hrd4.below hb45).now
  have S1 := Lib.hid (sameState_calls A2 c2 A3 c3 A5 c5 A6 c6 rb re W5 r1.1 r1.2 r2.1 r2.2)
  have hB5 := hB3.trans (hb35.mono (by omega))
  have S2 := Lib.hid (fun W (h : Below W5.heap.size W5 W) => sameBatchesT_calls A1 c1 A c l W (Kd.C_below (Kd.C_below hC1b hb35) h) (Kd.C_below (Kd.C_below hr hB5) h))
  replace hW5 := Lib.hid hW5
  clear r1 r2 hrd3 hrd4 hC1b ha3 hb4
  go_wp2_with fail
  rw [← hW5.out]
  refine S1.out.mono ?_
  rintro e w6 ⟨rfl, hb6⟩
  go_wp2_with fail
  refine (S2.out _ hb6).mono ?_
  rintro e w7 ⟨rfl, hb7⟩
  go_wp2_with fail
  go_ret
  exact ⟨(by first | rfl | (simp; done) | (simp [*]; done) | (rw [if_pos (by omega)]; first | rfl | (simp; done)) | (rw [if_neg (by omega)]; first | rfl | (simp; done)) | (simp; omega)), hB5.trans ((hb6.trans (hb7.mono hb6.size)).mono hB5.size)⟩
end Go.Proofs.YtijdghplfhfpaaaDoor.H
namespace Go.Proofs.YtijdghplfhfpaaaDoor.bookFolds
open Go.ChangeShapes Go.WideShapes Go.ChangeAt Go.RowKit Go.Proofs.YtijdghplfhfpaaaDoorW.PrintWords Go.Proofs.YtijdghplfhfpaaaDoor.U Go.Proofs.YtijdghplfhfpaaaDoor.UB Go.Proofs.YtijdghplfhfpaaaDoor.H
open Go.ChangeMaps (open_string shut_string)
set_option linter.unusedVariables false
set_option maxRecDepth 100000
theorem own : ownKnob Tryd.prog.godebug = none := by kernel_rfl
theorem laidOut : laidOutB Tryd.prog = true := by kernel_rfl
theorem opens_batch {n : Nat} : OpensN Tryd.prog n 88 kBt (fun y => (Lit.int .i64 y.1).wf = true ∧ (y.2.length ≤ bulkTop ∧ ∀ b ∈ y.2, okAEntry b)) :=
  opens_struct Tryd.underlying88 (len := 2) (by kernel_rfl) (fun m _ => opensF_cons rfl (by kernel_rfl) (opens_int Tryd.underlying3)
    (opensF_one rfl (by kernel_rfl) (opens_slice Tryd.underlying23 (by kernel_rfl) (fun _ _ => opens_AEntry))))
set_option maxRecDepth 100000 in
theorem lifted (os : Os) (started : os.Started) (H : Type) (enc : TypeId × Value → H) (F : Stop.Interp) :
    ReturnsInHanded {} Tryd.checked os 7 .any ((Rows.OpenSpec.upto Rows.bookFoldsSpec).preRow enc Tryd.prog Tryd.f7 Rows.bookFoldsUptoRow.domain false Rows.bookFoldsUptoRow.laid) (((Rows.OpenSpec.upto Rows.bookFoldsSpec).at F).post enc Tryd.prog Tryd.f7 false true false false) := by
  refine returnsInHanded_of_row (C := Tryd.checked) (s := Rows.OpenSpec.upto Rows.bookFoldsSpec) own started (by kernel_rfl) Tryd.func7
    (witness_up (enc := enc) (C := Tryd.checked) (s := Rows.OpenSpec.upto Rows.bookFoldsSpec) (laid := Rows.bookFoldsUptoRow.laid) os #[.slice none 0 0, .int .i64 0] 8 (World.shaped_of_ZipB (by kernel_rfl) (by kernel_rfl)) (by kernel_rfl) ([.nil, .lit (.int .i64 0)], [], []) (by kernel_rfl) (by kernel_rfl)
      (fun k hk => by cases hk; kernel_rfl) (by kernel_rfl)
      (by rw [MakeChecks.laidMetH_plain _ _ _ (by kernel_rfl)]; exact laidMet_laidAll _ (by kernel_rfl) (by kernel_rfl))) ?_
  intro W base args ds gs before hval0 hW hcnd hcond hsz hL hsh _
  have hk : Rows.uptoSmall H (ds ++ gs) = true := hcond _ rfl
  have hval : ∀ (j : Nat) t v, Tryd.f7.params[j]? = some t → args[j]? = some v → Value.okWide Tryd.prog W .any base t v := hval0
  have hW' := hW
  obtain ⟨p, q, hA0, hV, rfl, hfz, hnd⟩ := hW
  have hA : DataW.TrodAll enc Tryd.prog W 0 (fun _ => true) true Tryd.f7.params.toList args.toList ds p := hA0
  rw [Tryd.params7] at hA hval
  rw [MakeChecks.laidMetH_plain _ _ _ (by kernel_rfl)] at hL
  obtain ⟨ps, hL, hLn, hLc⟩ := hL
  obtain ⟨v0, vs0, d0, ds0, p0, q0, hargs, rfl, rfl, h0, r0⟩ := trodAll_cons hA
  obtain ⟨v1, vs1, d1, ds1, p1, q1, rfl, rfl, rfl, h1, r1⟩ := trodAll_cons r0
  obtain ⟨rfl, rfl, rfl⟩ := trodAll_nil r1
  obtain rfl : args = #[v0, v1] := by cases args; simp_all
  obtain ⟨rfl, rfl⟩ := trodVars_none hV
  have lt0 : ∀ x ∈ p0, x.block < W.heap.size := by obtain ⟨m, hm⟩ := h0; exact DataW.trod_lt m _ _ _ hm
  have lt1 : ∀ x ∈ p1, x.block < W.heap.size := by obtain ⟨m, hm⟩ := h1; exact DataW.trod_lt m _ _ _ hm
  obtain ⟨l, A, c, rfl, hl, hr, hlen, hall⟩ := arg_slice Tryd.underlying43 (hval 0 _ v0 rfl rfl) h0 (bulk_arg hk (j := 0) rfl) (fun _ => opens_slice Tryd.underlying43 (by kernel_rfl) (fun _ _ => opens_batch))
  obtain ⟨u, rfl, rfl, rfl, _⟩ := open_int Tryd.underlying3 (hval 1 _ v1 rfl rfl) h1
  obtain ⟨m, hm⟩ := cell_of_shapedOpen_int (g := 6) (zero := #[.int .i64 0]) hsh (of_decide_eq_true (by kernel_rfl)) (by kernel_rfl) (by kernel_rfl) (by kernel_rfl) (by kernel_rfl) Tryd.underlying3
  refine (bookFolds_walk A c l u m W hr hlen (fun b hb => (hall b hb).2.1) (fun b hb x hx => ⟨((hall b hb).2.2 x hx).2.1, ((hall b hb).2.2 x hx).2.2.2.2.1, ((hall b hb).2.2 x hx).2.2.2.2.2⟩) hm (lt_of_cell hm)).mono fun e W' ⟨he, bel⟩ => ?_
  subst he
  refine ⟨_, rfl, _, _, _, [], _, [], hW', trodAll_mk1 (shut_bool Tryd.underlying4 _), (trodAll_cons_mk (Below.trod laidOut (by kernel_rfl) (of_decide_eq_true (by kernel_rfl)) h0 bel lt0) (trodAll_cons_mk (Below.trod laidOut (by kernel_rfl) (of_decide_eq_true (by kernel_rfl)) h1 bel lt1) trodAll_mk0)), rfl, bel.frame _, fun h => by cases h⟩
theorem over : Rows.bookFoldsUptoRow.holds Tryd.pinned (Rows.OpenSpec.upto Rows.bookFoldsSpec) :=
  OpenClaim.holds_of_cond 7 Tryd.f7 rfl rfl rfl rfl rfl rfl rfl ⟨rfl, rfl, rfl, rfl, rfl⟩ rfl rfl rfl rfl rfl (by kernel_rfl) Tryd.func7 (by kernel_rfl)
    (of_decide_eq_true (by kernel_rfl)) (by unfold Func.isWrapper; first | (rw [if_pos (by decide +kernel)]; kernel_rfl) | (rw [if_neg (by decide +kernel)]; exact ⟨rfl, rfl⟩))
    (fun os started H enc _ F => by rw [OpenClaim.pre_eq_preRow]; exact lifted os started H enc F)
theorem card : Rows.BookFoldsUptoCardSaid :=
  Claim7.holds_tied_plain_at .later [] _ _ _ _ over (fun _ h => by cases h) (by kernel_rfl) (fun _ h => by cases h) bookFoldsUpto_row_tie rfl ⟨rfl, rfl⟩ (by kernel_rfl) rfl
    (fun f fn hf hfn => by
      obtain rfl : f = 7 := Option.some.inj ((show Tryd.prog.funcNamed "postroom/postroomlaw.BookFolds" = some 7 by kernel_rfl).symm.trans hf) |>.symm
      obtain rfl : fn = Tryd.f7 := (Option.some.inj (Tryd.func7.symm.trans hfn)).symm
      exact ⟨by kernel_rfl, fun j t ht => by
        have hm : t ∈ Tryd.f7.params.toList := by simpa using Array.mem_of_getElem? ht
        have hall : (Tryd.f7.params.toList.all fun u => !Tryd.prog.wantsStandIn u) = true := by kernel_rfl
        exact (show Tryd.prog.wantsStandIn t = false by simpa using List.all_eq_true.1 hall t hm)⟩)
    (by kernel_rfl)
end Go.Proofs.YtijdghplfhfpaaaDoor.bookFolds
namespace Go.Proofs.YtijdghplfhfpaaaDoor
theorem bookFolds_holds : Rows.BookFoldsUptoCardSaid := bookFolds.card
#print axioms bookFolds_holds
end Go.Proofs.YtijdghplfhfpaaaDoor
