/- Scripts cut into tokens: what says nothing: the walk of the cutter's skip. -/
import Derived.Test.YtpeenmbonhijmaaDoorCutA
import Derived.Deep.QuietTactic
import Derived.BigQuiet
namespace Go.Proofs.YtpeenmbonhijmaaDoor.H
open Go.RowKit Go.Proofs.YtpeenmbonhijmaaDoorW.PrintWords Go.Proofs.YtpeenmbonhijmaaDoorW.PrintLast Go.Proofs.YtpeenmbonhijmaaDoorW.PrintMore Go.Proofs.YtpeenmbonhijmaaDoor.U
set_option linter.unusedVariables false
set_option linter.unusedSimpArgs false
set_option maxHeartbeats 1000000 in
set_option maxRecDepth 100000 in
theorem cskip_calls (b : Nat) (s : ByteArray) (i : Nat) (m : Int) (w : World) (hc : Cur w b s i) (hi : i ≤ s.size) (hs : s.size ≤ 1048576) (hm : w.cell? ⟨0, 0, none⟩ = some (.int .i64 m)) (hg : 0 < b) :
    Calls Tryd.prog 90 #[.pointer (some ⟨b, 0, none⟩)] w fun e w' => e = .returned (.bool (silent s i).2) ∧ Cur w' b s (silent s i).1 ∧ w.grownBy w' (some b) := by
  generalize hR : silent s i = R
  obtain ⟨r1, r2⟩ := R
  have ltb := hc.lt
  have hM : ∀ W, w.grownBy W (some b) → W.cell? ⟨0, 0, none⟩ = some (.int .i64 m) := fun W h => grown_cell h hm (by omega) (by simp; omega)
  have hM := Lib.hid hM
  clear hm
  go_enter Tryd.func90, Tryd.ntmps90
  go_wp2_with fail
  go_loopw [] (fun wr => ∃ k : Nat, k ≤ s.size ∧ Cur wr b s k ∧ silent s k = (r1, r2) ∧ w.grownBy wr (some b)) (fun wr => s.size - placeOf wr b)
  case atStart => exact ⟨i, hi, hc, hR, World.grownBy.refl _ _⟩
  case round =>
    clear hc hR
    obtain ⟨k, hk, hc, hR, hB⟩ := hrel
    have hp2 := hc.place
    have HW := Lib.hid (fun W hc => spanWs_calls b s k W hc hk (by omega))
    have hj1 := span_ge wsB s k hk
    have hj2 := span_le wsB s k hk
    have HN := Lib.hid (fun W hc => cnext_cur b s (spanEnd wsB s k) W hc hj2 (by omega))
    have hh := fun h => silent_hash (s := s) (i := k) hk h
    have hso := fun e h h' h2 => silent_some (s := s) (i := k) (e := e) hk h h' h2
    have hno := fun h h' h2 => silent_none (s := s) (i := k) h h' h2
    have hen := fun h h' => silent_end (s := s) (i := k) h h'
    rw [hR] at hh hso hno hen
    generalize spanEnd wsB s k = j at *
    go_wp2_with fail
    refine (HW.out _ hc).mono ?_
    rintro e w1 ⟨rfl, hc1, g1⟩
    have gg1 := grown_trans hB g1
    by_cases h35 : nx s j = 35
    · obtain ⟨hq, hlt, hle⟩ := hh h35
      clear hh hso hno hen
      rw [h35] at HN
      have HL := Lib.hid (fun W hc => spanLine_calls b s j W hc hj2 (by omega))
      have hq := Lib.hid hq
      clear h35
      generalize spanEnd lineB s j = q at *
      go_wp2_with fail
      refine (HN.out _ hc1).mono ?_
      rintro e w2 ⟨rfl, hc2, g2⟩
      go_wp2_with fail
      refine (HL.out _ hc2).mono ?_
      rintro e w3 ⟨rfl, hc3, g3⟩
      go_wp2_with fail
      go_roundw
      case rel => exact ⟨q, hle, hc3, hq.out.symm, grown_trans gg1 (grown_trans g2 g3)⟩
      case measure => rw [hp2, hc3.place]; omega
    · have e1 : (nx s j == 35) = false := by rw [beq_eq_false_iff_ne]; exact h35
      have HP := fun W => hasPre_calls s j W
      replace hen := hen h35
      clear hh
      by_cases h47 : nx s j = 47 ∧ nx s (j + 1) = 42
      · rw [decide_eq_true h47] at HP
        have HP := Lib.hid HP
        have HI := fun W hm => starIx_calls s (j + 2) m W hs hm
        replace hso := fun e h => hso e h47.1 h47.2 h
        replace hno := fun h => hno h47.1 h47.2 h
        have hj3 : j + 2 ≤ s.size := by have := nx_lt (s := s) (i := j + 1) (by rw [h47.2]; decide); omega
        unfold starV at HI
        clear hen h47 h35
        generalize nx s j = x at *
        have i0 : (0 : Int) ≤ (j : Int) := by omega
        have i1 : (j : Int) ≤ (s.size : Int) := by omega
        have i2 : (j : Int) + 2 ≤ (s.size : Int) := by omega
        have i3 : (0 : Int) ≤ (j : Int) + 2 := by omega
        have i4 : IntKind.i64.wrap ((j : Int) + 2) = (j : Int) + 2 := by rw [IntKind.wrap_i64]; omega
        have i5 : ((j : Int) + 2).toNat = j + 2 := by omega
        cases he : starAt s (j + 2) with
        | none =>
          simp only [he] at HI
          obtain ⟨rfl, rfl⟩ := Prod.mk.inj (hno he)
          have HI := Lib.hid HI
          clear hso hno he
          go_wp2_with fail
          refine (HN.out _ hc1).mono ?_
          rintro e w2 ⟨rfl, hc2, g2⟩
          have h_ := hc2
          obtain ⟨c0, c1, f0, f1, lt⟩ := h_
          go_wp2_with fail
          go_quiet ((go_at_call 140; exact quiet_eq (HP.out _)))
          go_wp2_with fail
          have hc3 := hc2.drawN nq
          have gg3 := grown_drawN (grown_trans gg1 g2) nq
          generalize w2.drewN nq = w3 at *
          clear c0 c1 f0 f1 lt hc2 g2
          have hM2 := hM.out _ gg3
          have hMn := fun n => (show (w3.drewN n).cell? ⟨0, 0, none⟩ = some (.int .i64 m) by simpa using hM2)
          have hcc := hc3
          obtain ⟨c0, c1, f0, f1, lt⟩ := hcc
          go_quiet ((go_at_call 114; exact quiet_eq (HI.out _ (hMn _))))
          go_wp2_with fail
          go_ret
          exact ⟨rfl, (by repeat (first | exact hc3 | apply Cur.drawN | apply Cur.drew | apply Cur.set)), (by repeat (first | exact World.grownBy.refl _ _ | apply grown_drawN | apply grown_drew | apply grown_set | exact gg3))⟩
        | some q =>
          simp only [he] at HI
          obtain ⟨hq, hlt, hle⟩ := hso q he
          have hge := starAt_ge s _ _ _ (Nat.le_refl _) he
          have HI := Lib.hid HI
          have hq := Lib.hid hq
          clear hso hno he
          obtain ⟨p, rfl⟩ : ∃ p, q = j + 2 + p := ⟨q - (j + 2), by omega⟩
          have i6 : j + 2 + p - (j + 2) = p := by omega
          rw [i6] at HI
          have i7 : ¬ (p : Int) < 0 := by omega
          clear i6
          go_wp2_with fail
          refine (HN.out _ hc1).mono ?_
          rintro e w2 ⟨rfl, hc2, g2⟩
          have h_ := hc2
          obtain ⟨c0, c1, f0, f1, lt⟩ := h_
          go_wp2_with fail
          go_quiet ((go_at_call 140; exact quiet_eq (HP.out _)))
          go_wp2_with fail
          have hc3 := hc2.drawN nq
          have gg3 := grown_drawN (grown_trans gg1 g2) nq
          generalize w2.drewN nq = w3 at *
          clear c0 c1 f0 f1 lt hc2 g2
          have hM2 := hM.out _ gg3
          have hMn := fun n => (show (w3.drewN n).cell? ⟨0, 0, none⟩ = some (.int .i64 m) by simpa using hM2)
          have hcc := hc3
          obtain ⟨c0, c1, f0, f1, lt⟩ := hcc
          go_quiet ((go_at_call 114; exact quiet_eq (HI.out _ (hMn _))))
          have hc4 := hc3.drawN nq
          have gg4 := grown_drawN gg3 nq
          generalize w3.drewN nq = w4 at *
          clear c0 c1 f0 f1 lt hMn hM2 hc3 gg3
          have hcc := hc4
          obtain ⟨c0, c1, f0, f1, lt⟩ := hcc
          clear i4
          go_wp2_with fail
          have hc5 := hc4.setI ((j : Int) + ((p : Int) + 4)) (j + 2 + p + 2) (by omega)
          go_roundw
          case rel => exact ⟨j + 2 + p + 2, by omega, hc5, hq.out.symm, grown_set gg4 _ _⟩
          case measure => rw [hp2, hc5.place]; omega
      · rw [decide_eq_false h47] at HP
        have HP := Lib.hid HP
        have i0 : (0 : Int) ≤ (j : Int) := by omega
        have i1 : (j : Int) ≤ (s.size : Int) := by omega
        obtain ⟨rfl, rfl⟩ := Prod.mk.inj (hen h47)
        clear hso hno hen h47 h35
        generalize nx s r1 = x at *
        go_wp2_with fail
        refine (HN.out _ hc1).mono ?_
        rintro e w2 ⟨rfl, hc2, g2⟩
        have h_ := hc2
        obtain ⟨c0, c1, f0, f1, lt⟩ := h_
        go_wp2_with fail
        go_quiet ((go_at_call 140; exact quiet_eq (HP.out _)))
        go_wp2_with fail
        go_ret
        exact ⟨rfl, (by repeat (first | exact hc2 | apply Cur.drawN | apply Cur.drew | apply Cur.set)), (by repeat (first | exact World.grownBy.refl _ _ | apply grown_drawN | apply grown_drew | apply grown_set | exact (grown_trans gg1 g2)))⟩
end Go.Proofs.YtpeenmbonhijmaaDoor.H
