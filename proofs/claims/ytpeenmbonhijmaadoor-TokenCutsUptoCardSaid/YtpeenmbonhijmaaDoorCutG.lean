/- Scripts cut into tokens: the walk of token.Cut. -/
import Derived.Test.YtpeenmbonhijmaaDoorCutF
import Derived.Test.YtpeenmbonhijmaaDoorCutB
import Derived.Test.YtpeenmbonhijmaaDoorJoinD
namespace Go.Proofs.YtpeenmbonhijmaaDoor.H
open Go.RowKit Go.Proofs.YtpeenmbonhijmaaDoorW.PrintWords Go.Proofs.YtpeenmbonhijmaaDoorW.PrintLast Go.Proofs.YtpeenmbonhijmaaDoorW.PrintMore Go.Proofs.YtpeenmbonhijmaaDoor.U
set_option linter.unusedVariables false
set_option linter.unusedSimpArgs false
theorem shift_le (s : ByteArray) (e : Nat) (h : e ≤ s.size) : e ≤ (shiftAt s e).2 ∧ (shiftAt s e).2 ≤ s.size := by
  unfold shiftAt
  split
  · have := nx_lt (s := s) (i := e) (by omega); simp only; omega
  · split
    · have := nx_lt (s := s) (i := e) (by omega); simp only; omega
    · simp only; omega
theorem num_end (s : ByteArray) (i : Nat) : (numAt s i).2.2 = (shiftAt s (spanEnd digitB s i)).2 := by
  unfold numAt; split
  · rfl
  · split <;> rfl
theorem tok_gt (s : ByteArray) (i : Nat) (hi : i < s.size) (h : (tokAt s i).1 = 0) : i < (tokAt s i).2.2 ∧ (tokAt s i).2.2 ≤ s.size := by
  revert h
  unfold tokAt
  split
  · rename_i h1
    intro _
    rw [nx_in hi] at h1
    simp only
    rw [spanEnd_yes wordB hi (by simp [wordB, h1])]
    have := span_ge wordB s (i + 1) (by omega)
    have := span_le wordB s (i + 1) (by omega)
    omega
  · split
    · split
      · intro _
        have := span_ge wordB s (i + 1) (by omega)
        have := span_le wordB s (i + 1) (by omega)
        simp only
        omega
      · intro h; cases h
    · split
      · rename_i h1
        split
        · intro _
          simp only
          rw [nx_in hi] at h1
          rw [num_end, spanEnd_yes digitB hi h1]
          have h2 := span_ge digitB s (i + 1) (by omega)
          have h3 := span_le digitB s (i + 1) (by omega)
          have := shift_le s _ h3
          omega
        · rename_i h2; intro h; exact absurd h h2
      · split
        · split
          · rename_i r e he
            intro _
            have := strAt_gt s _ _ _ _ _ (Nat.le_refl _) he
            simp only
            omega
          · intro h; cases h
        · split
          · intro _; simp only; omega
          · intro h; cases h
theorem cut_open {s : ByteArray} {i p : Nat} {l : List AToken} (hS : silent s i = (p, false)) : cutGo s i l = (4, p, []) := by
  rw [cutGo, hS]; rfl
theorem cut_end {s : ByteArray} {i : Nat} {l : List AToken} (hS : silent s i = (s.size, true)) : cutGo s i l = (0, 0, l) := by
  rw [cutGo, hS, if_neg (by simp), if_pos rfl]
theorem cut_many {s : ByteArray} {i p : Nat} {l : List AToken} (hS : silent s i = (p, true)) (h2 : p ≠ s.size) (h3 : l.length = 400) : cutGo s i l = (5, p, []) := by
  rw [cutGo, hS, if_neg (by simp), if_neg h2, if_pos h3]
theorem cut_bad {s : ByteArray} {i p d : Nat} {t : AToken} {l : List AToken} {n : Int} (hS : silent s i = (p, true)) (h2 : p ≠ s.size) (h3 : l.length ≠ 400) (hT : tokAt s p = (n, t, d)) (hn : n ≠ 0) : cutGo s i l = (n, p, []) := by
  rw [cutGo, hS, if_neg (by simp), if_neg h2, if_neg h3]; simp only [hT]; rw [if_neg hn]
theorem cut_more {s : ByteArray} {i p d : Nat} {t : AToken} {l : List AToken} (hi : i ≤ p) (hp : p < s.size) (hS : silent s i = (p, true)) (h3 : l.length ≠ 400) (hT : tokAt s p = (0, t, d)) : cutGo s i l = cutGo s d (l ++ [t]) ∧ i < d ∧ d ≤ s.size := by
  have hg := tok_gt s p hp (by rw [hT])
  rw [hT] at hg
  simp only at hg
  refine ⟨?_, by omega, hg.2⟩
  conv => lhs; rw [cutGo, hS, if_neg (by simp), if_neg (by simp only; omega), if_neg h3]; simp only [hT]; rw [if_pos trivial, if_pos ⟨by omega, hg.2⟩]
/-- What token.Cut hands back. -/
def PostCut (w : World) (R : Int × Nat × List AToken) (e : Ending) (w' : World) : Prop :=
  ∃ v : Value, e = .returned (.tuple #[v, .int .i64 (R.2.1 : Int), .int .i64 R.1]) ∧ Kd.R kAToken 124 w' w.heap.size (fun _ => True) v R.2.2 ∧ Below w.heap.size w w'
set_option maxHeartbeats 8000000 in
set_option maxRecDepth 100000 in
theorem cut_calls (s : ByteArray) (m : Int) (w : World) (hs : s.size ≤ 1048576) (hm : w.cell? ⟨0, 0, none⟩ = some (.int .i64 m)) (hg : 0 < w.heap.size) (hE : ErrAt w 5) (hg2 : 5 < w.heap.size) :
    Calls Tryd.prog 45 #[.string s] w (PostCut w (cutV s)) := by
  unfold cutV
  by_cases hbig : 2000 < s.size
  · rw [if_pos hbig]
    have hbig' : (2000 : Int) < (s.size : Int) := by omega
    go_enter Tryd.func45, Tryd.ntmps45
    go_wp2_with fail
    go_ret3
    exact ⟨_, rfl, Kd.R_nil _ _ _ _ _, Below.refl _ _⟩
  rw [if_neg hbig]
  have hbig' : ¬ (2000 : Int) < (s.size : Int) := by omega
  generalize hR : cutGo s 0 [] = R
  go_enter Tryd.func45, Tryd.ntmps45
  go_wp2_with fail
  go_loopw [5] (fun v wr => ∃ (i : Nat) (acc : List AToken), i ≤ s.size ∧ acc.length ≤ i ∧ Cur wr w.heap.size s i ∧ Kd.R kAToken 124 wr (w.heap.size + 1) (fun _ => True) v acc ∧ cutGo s i acc = R ∧ Below w.heap.size w wr) (fun _ wr => s.size - placeOf wr w.heap.size)
  case atStart => exact ⟨0, [], Nat.zero_le _, Nat.le_refl _, Cur.made w s 0 _, Kd.R_nil _ _ _ _ _, hR, (by repeat (first | exact Below.refl _ _ | apply below_alloc | apply pw_below_drewN | apply below_drew1 | (refine Below.setCell ?_ (by first | (simp; done) | (simp; omega) | omega) _) ))⟩
  case round =>
    clear hR
    obtain ⟨i, acc, hi, hacc, hc, hRow, hR, hB⟩ := hrel
    have hp2 := hc.place
    have ltb := hc.lt
    obtain ⟨A0, cap0, rfl⟩ := Kd.R_slice hRow
    have HK := cskip_calls w.heap.size s i m wr hc hi hs (cell_below hB hm hg) hg
    have hge := silent_ge s _ i (Nat.le_refl _) hi
    rcases hS : silent s i with ⟨p, ok⟩
    rw [hS] at HK hge
    simp only at HK hge
    have HK := Lib.hid HK
    cases ok with
    | false =>
      rw [cut_open hS] at hR
      subst hR
      clear hS
      go_wp2_with fail
      refine HK.out.mono ?_
      rintro e w1 ⟨rfl, hc1, g1⟩
      obtain ⟨c0, c1, f0, f1, lt⟩ := hc1
      go_wp2_with fail
      go_quiet (fail)
      go_wp2_with fail
      go_ret3
      exact ⟨_, rfl, Kd.R_nil _ _ _ _ _, (by repeat (first | exact Below.refl _ _ | apply below_alloc | apply pw_below_drewN | apply below_drew1 | (refine Below.setCell ?_ (by first | (simp; done) | (simp; omega) | omega) _) | exact below_row2 (b := 0) hB g1))⟩
    | true =>
      by_cases hend : p = s.size
      · subst hend
        rw [cut_end hS] at hR
        subst hR
        clear hS
        go_wp2_with fail
        refine HK.out.mono ?_
        rintro e w1 ⟨rfl, hc1, g1⟩
        obtain ⟨c0, c1, f0, f1, lt⟩ := hc1
        go_wp2_with fail
        go_ret3
        exact ⟨_, rfl, Kd.R_lower (R_grownE (b := w.heap.size) hRow g1 (by omega)) (by omega), (by repeat (first | exact Below.refl _ _ | apply below_alloc | apply pw_below_drewN | apply below_drew1 | (refine Below.setCell ?_ (by first | (simp; done) | (simp; omega) | omega) _) | exact below_row2 (b := 0) hB g1))⟩
      · have hps : p < s.size := by omega
        have ee : ((p : Int) == (s.size : Int)) = false := by rw [beq_eq_false_iff_ne]; omega
        by_cases h4 : acc.length = 400
        · rw [cut_many hS hend h4] at hR
          subst hR
          clear hS
          have ee4 : ((acc.length : Int) == 400) = true := by rw [beq_iff_eq]; omega
          go_wp2_with fail
          refine HK.out.mono ?_
          rintro e w1 ⟨rfl, hc1, g1⟩
          obtain ⟨c0, c1, f0, f1, lt⟩ := hc1
          go_wp2_with fail
          go_ret3
          exact ⟨_, rfl, Kd.R_nil _ _ _ _ _, (by repeat (first | exact Below.refl _ _ | apply below_alloc | apply pw_below_drewN | apply below_drew1 | (refine Below.setCell ?_ (by first | (simp; done) | (simp; omega) | omega) _) | exact below_row2 (b := 0) hB g1))⟩
        · have ee4 : ((acc.length : Int) == 400) = false := by rw [beq_eq_false_iff_ne]; omega
          have HO := fun W hc hE => cone_calls w.heap.size s p W hc hps hs hE hg2
          have hEx : ∀ W, Below w.heap.size w W → ErrAt W 5 := fun W h => by
            obtain ⟨ev, h1, h2⟩ := hE
            exact ⟨ev, cell_below h h1 hg2, h2⟩
          have hbad := fun n t d hT hn => cut_bad (d := d) (n := n) (t := t) (l := acc) hS hend h4 hT hn
          have hmore := fun t d hT => cut_more (d := d) (t := t) (l := acc) hge.1 hps hS h4 hT
          rw [hR] at hbad hmore
          rcases hT : tokAt s p with ⟨n, t, d⟩
          rw [hT] at HO
          unfold PostOne at HO
          simp only at HO
          by_cases hn : n = 0
          · subst hn
            obtain ⟨hq, hlt, hle⟩ := hmore t d hT
            simp only [if_true] at HO
            have HO := Lib.hid HO
            have hEx := Lib.hid hEx
            have hq := Lib.hid hq
            clear hT hbad hmore hS hE hm h4 hend hR
            go_wp2_with fail
            refine HK.out.mono ?_
            rintro e w1 ⟨rfl, hc1, g1⟩
            have b1 := below_row2 (b := 0) hB g1
            have r1 := R_grownE (b := w.heap.size) hRow g1 (by omega)
            have hcc := hc1
            obtain ⟨c0, c1, f0, f1, lt⟩ := hcc
            go_wp2_with fail
            refine (HO.out _ hc1 (hEx.out _ b1)).mono ?_
            rintro e w2 ⟨rfl, hc2, g2⟩
            have b2 := below_row2 (b := 0) b1 g2
            have r2 := R_grownE (b := w.heap.size) r1 g2 (by omega)
            have lt2 := hc2.lt
            clear c0 c1 f0 f1 lt hc1 r1 hRow
            go_wp2_with (at_builtin; refine snoc_list rowAToken (w.heap.size + 1) rfl _ _ rfl (.slice A0 acc.length cap0) acc t [.int .i64 t.kind, .string t.text, .int .i64 t.number] rfl (by simp [Act.eval]) rfl (Kd.R_below r2 (by repeat (first | exact Below.refl _ _ | apply below_alloc | apply pw_below_drewN | apply below_drew1 | (refine Below.setCell ?_ (by first | (simp; done) | (simp; omega) | omega) _) ))) (by first | (simp; done) | (simp; omega) | omega) (by omega) ?_; intro v1 w3 hR1 hb3 hg3)
            go_roundw
            case rel => exact ⟨d, acc ++ [t], hle, by simp; omega, (by refine Cur.below ?_ hb3 (by omega); repeat (first | exact hc2 | apply Cur.alloc | (refine Cur.other ?_ (by first | (simp; done) | (simp; omega) | omega) _))), hR1, hq.out.symm, Below.trans (show Below w.heap.size w _ from (by repeat (first | exact Below.refl _ _ | apply below_alloc | apply pw_below_drewN | apply below_drew1 | (refine Below.setCell ?_ (by first | (simp; done) | (simp; omega) | omega) _) | exact b2))) (hb3.mono (by omega))⟩
            case measure =>
              have hc3 : Cur w3 w.heap.size s d := by refine Cur.below ?_ hb3 (by omega); repeat (first | exact hc2 | apply Cur.alloc | (refine Cur.other ?_ (by first | (simp; done) | (simp; omega) | omega) _))
              rw [hp2, hc3.place]; omega
          · simp only [if_neg hn] at HO
            have hq := hbad n t d hT hn
            subst hq
            have HO := Lib.hid HO
            have hEx := Lib.hid hEx
            clear hT hbad hmore hS hE hm h4 hend
            have en : (n != 0) = true := by rw [bne_iff_ne]; exact hn
            go_wp2_with fail
            refine HK.out.mono ?_
            rintro e w1 ⟨rfl, hc1, g1⟩
            have b1 := below_row2 (b := 0) hB g1
            have hcc := hc1
            obtain ⟨c0, c1, f0, f1, lt⟩ := hcc
            go_wp2_with fail
            refine (HO.out _ hc1 (hEx.out _ b1)).mono ?_
            rintro e w2 ⟨rfl, g2⟩
            have b2 := below_row2 (b := 0) b1 g2
            go_wp2_with fail
            go_ret3
            exact ⟨_, rfl, Kd.R_nil _ _ _ _ _, (by repeat (first | exact Below.refl _ _ | apply below_alloc | apply pw_below_drewN | apply below_drew1 | (refine Below.setCell ?_ (by first | (simp; done) | (simp; omega) | omega) _) | exact b2))⟩
end Go.Proofs.YtpeenmbonhijmaaDoor.H
