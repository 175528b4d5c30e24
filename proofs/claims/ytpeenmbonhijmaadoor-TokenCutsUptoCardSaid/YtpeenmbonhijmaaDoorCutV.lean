/- Scripts cut into tokens: the reference's TokensOf: the walk. -/
import Derived.Test.YtpeenmbonhijmaaDoorCutU
namespace Go.Proofs.YtpeenmbonhijmaaDoor.H
open Go.RowKit Go.Proofs.YtpeenmbonhijmaaDoorW.PrintWords Go.Proofs.YtpeenmbonhijmaaDoorW.PrintLast Go.Proofs.YtpeenmbonhijmaaDoorW.PrintMore Go.Proofs.YtpeenmbonhijmaaDoor.U
set_option linter.unusedVariables false
set_option linter.unusedSimpArgs false
set_option maxHeartbeats 8000000 in
set_option maxRecDepth 100000 in
theorem rcut_calls (s : ByteArray) (w : World) (hs : s.size ≤ 1048576) :
    Calls Tryd.prog 46 #[.string s] w (PostCut w (cutV s)) := by
  unfold cutV
  by_cases hbig : 2000 < s.size
  · rw [if_pos hbig]
    have hbig' : (2000 : Int) < (s.size : Int) := by omega
    go_enter Tryd.func46, Tryd.ntmps46
    go_wp2_with fail
    go_ret3
    exact ⟨_, rfl, Kd.R_nil _ _ _ _ _, Below.refl _ _⟩
  rw [if_neg hbig]
  have hbig' : ¬ (2000 : Int) < (s.size : Int) := by omega
  generalize hR : cutGo s 0 [] = R
  go_enter Tryd.func46, Tryd.ntmps46
  go_wp2_with fail
  go_loopw [5, 6] (fun v vi wr => ∃ (i : Nat) (acc : List AToken), i ≤ s.size ∧ acc.length ≤ i ∧ vi = .int .i64 i ∧ Kd.R kAToken 124 wr w.heap.size (fun _ => True) v acc ∧ cutGo s i acc = R ∧ Below w.heap.size w wr) (fun _ vi _ => s.size - (intOf vi).toNat)
  case atStart => exact ⟨0, [], Nat.zero_le _, Nat.le_refl _, rfl, Kd.R_nil _ _ _ _ _, hR, Below.refl _ _⟩
  case round =>
    clear hR
    obtain ⟨i, acc, hi, hacc, rfl, hRow, hR, hB⟩ := hrel
    have hzw := hB.size
    obtain ⟨A0, cap0, rfl⟩ := Kd.R_slice hRow
    have HK := fun w => rsilent_calls s i w hi hs
    have hge := silent_ge s _ i (Nat.le_refl _) hi
    rcases hS : silent s i with ⟨p, ok⟩
    rw [hS] at HK hge
    simp only at HK hge
    have HK := Lib.hid HK
    cases ok with
    | false =>
      rw [cut_open hS] at hR
      subst hR
      clear hS
      go_wp2_with fail
      refine (HK.out _).mono ?_
      rintro e w1 ⟨rfl, rfl⟩
      go_wp2_with fail
      go_ret3
      exact ⟨_, rfl, Kd.R_nil _ _ _ _ _, (by repeat (first | exact Below.refl _ _ | apply below_alloc | apply pw_below_drewN | apply below_drew1 | (refine Below.setCell ?_ (by first | (simp; done) | (simp; omega) | omega) _) | exact hB))⟩
    | true =>
      by_cases hend : p = s.size
      · subst hend
        rw [cut_end hS] at hR
        subst hR
        clear hS
        go_wp2_with fail
        refine (HK.out _).mono ?_
        rintro e w1 ⟨rfl, rfl⟩
        go_wp2_with fail
        go_ret3
        exact ⟨_, rfl, hRow, (by repeat (first | exact Below.refl _ _ | apply below_alloc | apply pw_below_drewN | apply below_drew1 | (refine Below.setCell ?_ (by first | (simp; done) | (simp; omega) | omega) _) | exact hB))⟩
      · have hps : p < s.size := by omega
        have ee : ((p : Int) == (s.size : Int)) = false := by rw [beq_eq_false_iff_ne]; omega
        by_cases h4 : acc.length = 400
        · rw [cut_many hS hend h4] at hR
          subst hR
          clear hS
          have ee4 : ((acc.length : Int) == 400) = true := by rw [beq_iff_eq]; omega
          go_wp2_with fail
          refine (HK.out _).mono ?_
          rintro e w1 ⟨rfl, rfl⟩
          go_wp2_with fail
          go_ret3
          exact ⟨_, rfl, Kd.R_nil _ _ _ _ _, (by repeat (first | exact Below.refl _ _ | apply below_alloc | apply pw_below_drewN | apply below_drew1 | (refine Below.setCell ?_ (by first | (simp; done) | (simp; omega) | omega) _) | exact hB))⟩
        · have ee4 : ((acc.length : Int) == 400) = false := by rw [beq_eq_false_iff_ne]; omega
          have HO := fun W => rtoken_calls s p W hps hs
          have hbad := fun n t d hT hn => cut_bad (d := d) (n := n) (t := t) (l := acc) hS hend h4 hT hn
          have hmore := fun t d hT => cut_more (d := d) (t := t) (l := acc) hge.1 hps hS h4 hT
          rw [hR] at hbad hmore
          rcases hT : tokAt s p with ⟨n, t, d⟩
          rw [hT] at HO
          unfold PostRt at HO
          simp only at HO
          by_cases hn : n = 0
          · subst hn
            obtain ⟨hq, hlt, hle⟩ := hmore t d hT
            simp only [if_true] at HO
            have HO := Lib.hid HO
            have hq := Lib.hid hq
            clear hT hbad hmore hS h4 hend hR
            go_wp2_with fail
            refine (HK.out _).mono ?_
            rintro e w1 ⟨rfl, rfl⟩
            go_wp2_with fail
            refine (HO.out _).mono ?_
            rintro e w2 ⟨rfl, hb2⟩
            have hz2 := hb2.size
            have b2 := hB.trans (hb2.mono hzw)
            have r2 := Kd.R_below hRow hb2
            go_wp2_with (at_builtin; refine snoc_list rowAToken w.heap.size rfl _ _ rfl (.slice A0 acc.length cap0) acc t [.int .i64 t.kind, .string t.text, .int .i64 t.number] rfl (by simp [Act.eval]) rfl (Kd.R_below r2 (by repeat (first | exact Below.refl _ _ | apply below_alloc | apply pw_below_drewN | apply below_drew1 | (refine Below.setCell ?_ (by first | (simp; done) | (simp; omega) | omega) _) ))) (by first | (simp; done) | (simp; omega) | omega) (by omega) ?_; intro v1 w3 hR1 hb3 hg3)
            go_roundw
            case rel => exact ⟨d, acc ++ [t], hle, by simp; omega, rfl, hR1, hq.out.symm, Below.trans (show Below w.heap.size w _ from (by repeat (first | exact Below.refl _ _ | apply below_alloc | apply pw_below_drewN | apply below_drew1 | (refine Below.setCell ?_ (by first | (simp; done) | (simp; omega) | omega) _) | exact b2))) hb3⟩
            case measure => simp [intOf]; omega
          · simp only [if_neg hn] at HO
            have hq := hbad n t d hT hn
            subst hq
            have HO := Lib.hid HO
            clear hT hbad hmore hS h4 hend
            have en : (n != 0) = true := by rw [bne_iff_ne]; exact hn
            go_wp2_with fail
            refine (HK.out _).mono ?_
            rintro e w1 ⟨rfl, rfl⟩
            go_wp2_with fail
            refine (HO.out _).mono ?_
            rintro e w2 ⟨⟨k_, x_, m_, q_, rfl⟩, hb2⟩
            have b2 := hB.trans (hb2.mono hzw)
            go_wp2_with fail
            go_ret3
            exact ⟨_, rfl, Kd.R_nil _ _ _ _ _, (by repeat (first | exact Below.refl _ _ | apply below_alloc | apply pw_below_drewN | apply below_drew1 | (refine Below.setCell ?_ (by first | (simp; done) | (simp; omega) | omega) _) | exact b2))⟩
end Go.Proofs.YtpeenmbonhijmaaDoor.H
