/- Scripts cut into tokens: one token: the walk of the cutter's one. -/
import Derived.Test.YtpeenmbonhijmaaDoorCutD
import Derived.Test.YtpeenmbonhijmaaDoorCutE
import Derived.Test.YtpeenmbonhijmaaDoorJoinA
import Derived.Test.YtpeenmbonhijmaaDoorTokB
namespace Go.Proofs.YtpeenmbonhijmaaDoor.H
open Go.RowKit Go.Proofs.YtpeenmbonhijmaaDoorW.PrintWords Go.Proofs.YtpeenmbonhijmaaDoorW.PrintLast Go.Proofs.YtpeenmbonhijmaaDoorW.PrintMore Go.Proofs.YtpeenmbonhijmaaDoor.U
set_option linter.unusedVariables false
set_option linter.unusedSimpArgs false
/-- What the cutter's one hands back. -/
def PostOne (w : World) (b : Nat) (s : ByteArray) (R : Int × AToken × Nat) (e : Ending) (w' : World) : Prop :=
  if R.1 = 0 then e = .returned (.tuple #[.agg #[.int .i64 R.2.1.kind, .string R.2.1.text, .int .i64 R.2.1.number], .int .i64 0]) ∧ Cur w' b s R.2.2 ∧ w.grownBy w' (some b)
  else e = .returned (.tuple #[.agg #[.int .i64 0, .string ⟨#[]⟩, .int .i64 0], .int .i64 R.1]) ∧ w.grownBy w' (some b)
theorem one_ok {w w' : World} {b d : Nat} {s : ByteArray} {t : AToken} {e : Ending} (h : e = .returned (.tuple #[.agg #[.int .i64 t.kind, .string t.text, .int .i64 t.number], .int .i64 0]) ∧ Cur w' b s d ∧ w.grownBy w' (some b)) : PostOne w b s (0, t, d) e w' := by
  unfold PostOne; rw [if_pos rfl]; exact h
theorem one_bad {w w' : World} {b d : Nat} {s : ByteArray} {t : AToken} {n : Int} {e : Ending} (hn : n ≠ 0) (h : e = .returned (.tuple #[.agg #[.int .i64 0, .string ⟨#[]⟩, .int .i64 0], .int .i64 n]) ∧ w.grownBy w' (some b)) : PostOne w b s (n, t, d) e w' := by
  unfold PostOne; rw [if_neg hn]; exact h
theorem mark_calls (c : Int) (w : World) (h0 : 0 ≤ c) (h1 : c ≤ 255) : Calls Tryd.prog 144 #[.string ⟨#[123, 125, 40, 41, 91, 93, 59, 44]⟩, .int .u8 c] w fun e w' => (∃ j : Int, e = .returned (.int .i64 j) ∧ decide (0 ≤ j) = markB c) ∧ w = w' :=
  (Tryd.strings_IndexByte ⟨#[123, 125, 40, 41, 91, 93, 59, 44]⟩ c w).mono fun e w' hh => by
    obtain ⟨he, hw⟩ := hh
    refine ⟨⟨_, he, ?_⟩, hw.symm⟩
    have h := mark_index c.toNat.toUInt8
    have e2 : ((c.toNat.toUInt8).toNat : Int) = c := by
      have : (c.toNat.toUInt8).toNat = c.toNat % 256 := by simp
      omega
    rw [e2] at h
    exact h
set_option maxHeartbeats 8000000 in
set_option maxRecDepth 100000 in
theorem cone_calls (b : Nat) (s : ByteArray) (i : Nat) (w : World) (hc : Cur w b s i) (hi : i < s.size) (hs : s.size ≤ 1048576) (hE : ErrAt w 5) (hg : 5 < b) :
    Calls Tryd.prog 91 #[.pointer (some ⟨b, 0, none⟩)] w (PostOne w b s (tokAt s i)) := by
  generalize hR : tokAt s i = R
  unfold tokAt at hR
  have ltb := hc.lt
  have hne : some w.heap.size ≠ some b := by simp; omega
  have HN := fun W hc => cnext_cur b s i W hc (by omega) (by omega)
  have hby := nx_byte s i
  have HLt := fun w => letter_calls (nx s i) w hby.1 hby.2
  have HDg := fun w => digit_calls (nx s i) w hby.1 hby.2
  cases hl : letterB (nx s i) with
  | true =>
    rw [if_pos hl] at hR
    rw [hl] at HLt
    subst hR
    have HLt := Lib.hid HLt
    have HN := Lib.hid HN
    have HW := Lib.hid (fun W hc => word_calls b s i W hc (by omega) (by omega))
    clear HDg hl hby
    generalize nx s i = c at *
    generalize spanEnd wordB s i = e1 at *
    go_enter Tryd.func91, Tryd.ntmps91
    go_wp2_with fail
    refine (HN.out _ (hc.alloc _)).mono ?_
    rintro e w1 ⟨rfl, hc1, g1⟩
    have gg1 := grown_trans (grown_alloc (World.grownBy.refl w (some b)) (.cells #[.int .i64 0, .string ⟨#[]⟩, .int .i64 0] 124)) g1
    have k1 := (Blk.made w #[.int .i64 0, .string ⟨#[]⟩, .int .i64 0] 124).grown g1 hne
    go_wp2_with fail
    refine (HLt.out _).mono ?_
    rintro e w1' ⟨rfl, rfl⟩
    go_wp2_with fail
    refine (HW.out _ hc1).mono ?_
    rintro e w2 ⟨rfl, hc2, g2⟩
    have gg2 := grown_trans gg1 g2
    have k2 := k1.grown g2 hne
    have q0 := (k2).at 0 _ rfl
    have q1 := (k2).at 1 _ rfl
    have q2 := (k2).at 2 _ rfl
    have p0 := (k2).free 0 _ rfl
    have p1 := (k2).free 1 _ rfl
    have p2 := (k2).free 2 _ rfl
    go_wp2_with fail
    refine bodyPost_ret (v := .tuple #[.agg #[.int .i64 1, .string (s.extract i e1), .int .i64 0], .int .i64 0]) (by simp [results, Tryd.results91, go_sem, *]) rfl ?_
    exact one_ok ⟨rfl, ((hc2.other (by first | (simp; done) | (simp; omega) | omega) _).other (by first | (simp; done) | (simp; omega) | omega) _).other (by first | (simp; done) | (simp; omega) | omega) _, (by repeat (first | exact World.grownBy.refl _ _ | apply grown_drawN | apply grown_drew | apply grown_set | apply grown_alloc | (refine grown_new ?_ (by first | (simp; done) | (simp; omega) | omega) _ _) | exact gg2))⟩
  | false =>
    rw [if_neg (by rw [hl]; decide)] at hR
    rw [hl] at HLt
    have HLt := Lib.hid HLt
    by_cases h58 : nx s i = 58
    · rw [if_pos h58] at hR
      rw [h58] at HN
      have HN := Lib.hid HN
      have hby2 := nx_byte s (i + 1)
      have HN2 := Lib.hid (fun W hc => cnext_cur b s (i + 1) W hc (by omega) (by omega))
      have HL2 := fun w => letter_calls (nx s (i + 1)) w hby2.1 hby2.2
      have HW := Lib.hid (fun W hc => word_calls b s (i + 1) W hc (by omega) (by omega))
      rw [h58] at HLt
      clear HDg hl hby h58 hby2
      generalize nx s (i + 1) = y at *
      generalize spanEnd wordB s (i + 1) = e1 at *
      cases hy : letterB y with
      | true =>
        rw [if_pos hy] at hR
        rw [hy] at HL2
        subst hR
        clear hy
        have HL2 := Lib.hid HL2
        go_enter Tryd.func91, Tryd.ntmps91
        go_wp2_with fail
        refine (HN.out _ (hc.alloc _)).mono ?_
        rintro e w1 ⟨rfl, hc1, g1⟩
        have gg1 := grown_trans (grown_alloc (World.grownBy.refl w (some b)) (.cells #[.int .i64 0, .string ⟨#[]⟩, .int .i64 0] 124)) g1
        have k1 := (Blk.made w #[.int .i64 0, .string ⟨#[]⟩, .int .i64 0] 124).grown g1 hne
        go_wp2_with fail
        refine (HLt.out _).mono ?_
        rintro e w1' ⟨rfl, rfl⟩
        have hc1' := hc1.setI ((i : Int) + 1) (i + 1) (by omega)
        have gg1' := grown_set gg1 1 (.int .i64 ((i : Int) + 1))
        have k1' := k1.other (c := b) (j := 1) (by first | (simp; done) | (simp; omega) | omega) (.int .i64 ((i : Int) + 1))
        obtain ⟨c0, c1, f0, f1, lt1⟩ := hc1
        go_wp2_with fail
        refine (HN2.out _ hc1').mono ?_
        rintro e w2 ⟨rfl, hc2, g2⟩
        have gg2 := grown_trans gg1' g2
        have k2 := k1'.grown g2 hne
        go_wp2_with fail
        refine (HL2.out _).mono ?_
        rintro e w2' ⟨rfl, rfl⟩
        go_wp2_with fail
        refine (HW.out _ hc2).mono ?_
        rintro e w3 ⟨rfl, hc3, g3⟩
        have gg3 := grown_trans gg2 g3
        have k3 := k2.grown g3 hne
        have q0 := (k3).at 0 _ rfl
        have q1 := (k3).at 1 _ rfl
        have q2 := (k3).at 2 _ rfl
        have p0 := (k3).free 0 _ rfl
        have p1 := (k3).free 1 _ rfl
        have p2 := (k3).free 2 _ rfl
        go_wp2_with fail
        refine bodyPost_ret (v := .tuple #[.agg #[.int .i64 2, .string (s.extract (i + 1) e1), .int .i64 0], .int .i64 0]) (by simp [results, Tryd.results91, go_sem, *]) rfl ?_
        exact one_ok ⟨rfl, ((hc3.other (by first | (simp; done) | (simp; omega) | omega) _).other (by first | (simp; done) | (simp; omega) | omega) _).other (by first | (simp; done) | (simp; omega) | omega) _, (by repeat (first | exact World.grownBy.refl _ _ | apply grown_drawN | apply grown_drew | apply grown_set | apply grown_alloc | (refine grown_new ?_ (by first | (simp; done) | (simp; omega) | omega) _ _) | exact gg3))⟩
      | false =>
        rw [if_neg (by rw [hy]; decide)] at hR
        rw [hy] at HL2
        subst hR
        clear hy
        have HL2 := Lib.hid HL2
        go_enter Tryd.func91, Tryd.ntmps91
        go_wp2_with fail
        refine (HN.out _ (hc.alloc _)).mono ?_
        rintro e w1 ⟨rfl, hc1, g1⟩
        have gg1 := grown_trans (grown_alloc (World.grownBy.refl w (some b)) (.cells #[.int .i64 0, .string ⟨#[]⟩, .int .i64 0] 124)) g1
        have k1 := (Blk.made w #[.int .i64 0, .string ⟨#[]⟩, .int .i64 0] 124).grown g1 hne
        go_wp2_with fail
        refine (HLt.out _).mono ?_
        rintro e w1' ⟨rfl, rfl⟩
        have hc1' := hc1.setI ((i : Int) + 1) (i + 1) (by omega)
        have gg1' := grown_set gg1 1 (.int .i64 ((i : Int) + 1))
        have k1' := k1.other (c := b) (j := 1) (by first | (simp; done) | (simp; omega) | omega) (.int .i64 ((i : Int) + 1))
        obtain ⟨c0, c1, f0, f1, lt1⟩ := hc1
        go_wp2_with fail
        refine (HN2.out _ hc1').mono ?_
        rintro e w2 ⟨rfl, hc2, g2⟩
        have gg2 := grown_trans gg1' g2
        have k2 := k1'.grown g2 hne
        go_wp2_with fail
        refine (HL2.out _).mono ?_
        rintro e w2' ⟨rfl, rfl⟩
        have q0 := (k2).at 0 _ rfl
        have q1 := (k2).at 1 _ rfl
        have q2 := (k2).at 2 _ rfl
        have p0 := (k2).free 0 _ rfl
        have p1 := (k2).free 1 _ rfl
        have p2 := (k2).free 2 _ rfl
        go_wp2_with fail
        refine bodyPost_ret (v := .tuple #[.agg #[.int .i64 0, .string ⟨#[]⟩, .int .i64 0], .int .i64 3]) (by simp [results, Tryd.results91, go_sem, *]) rfl ?_
        exact one_bad (by decide) ⟨rfl, (by repeat (first | exact World.grownBy.refl _ _ | apply grown_drawN | apply grown_drew | apply grown_set | apply grown_alloc | (refine grown_new ?_ (by first | (simp; done) | (simp; omega) | omega) _ _) | exact gg2))⟩
    · rw [if_neg h58] at hR
      have e58 : (nx s i == 58) = false := by rw [beq_eq_false_iff_ne]; exact h58
      clear h58
      cases hd : digitB (nx s i) with
      | true =>
        rw [if_pos hd] at hR
        rw [hd] at HDg
        rw [nx_in hi] at hd
        have HM := fun W hc hE => cnumber_calls b s i W hc hi hd hs hE hg
        have hEx : ∀ W, w.grownBy W (some b) → ErrAt W 5 := fun W h => by
          obtain ⟨ev, hv, hev⟩ := hE
          exact ⟨ev, grown_cell h hv (by omega) (by simp; omega), hev⟩
        have hEx := Lib.hid hEx
        have HN := Lib.hid HN
        have HDg := Lib.hid HDg
        clear hE hl hd hby
        generalize nx s i = c at *
        generalize numAt s i = na at *
        obtain ⟨n1, n2, n3⟩ := na
        simp only at hR
        have HM := Lib.hid HM
        by_cases hn : n1 = 0
        · subst hn
          rw [if_pos rfl] at hR
          subst hR
          go_enter Tryd.func91, Tryd.ntmps91
          go_wp2_with fail
          refine (HN.out _ (hc.alloc _)).mono ?_
          rintro e w1 ⟨rfl, hc1, g1⟩
          have gg1 := grown_trans (grown_alloc (World.grownBy.refl w (some b)) (.cells #[.int .i64 0, .string ⟨#[]⟩, .int .i64 0] 124)) g1
          have k1 := (Blk.made w #[.int .i64 0, .string ⟨#[]⟩, .int .i64 0] 124).grown g1 hne
          go_wp2_with fail
          refine (HLt.out _).mono ?_
          rintro e w1' ⟨rfl, rfl⟩
          go_wp2_with fail
          refine (HDg.out _).mono ?_
          rintro e w1' ⟨rfl, rfl⟩
          go_wp2_with fail
          refine (HM.out _ hc1 (hEx.out _ gg1)).mono ?_
          intro e w2 hw2
          obtain ⟨rfl, hc2, g2⟩ : _ ∧ _ ∧ _ := hw2
          have gg2 := grown_trans gg1 g2
          have k2 := k1.grown g2 hne
          have q0 := (k2).at 0 _ rfl
          have q1 := (k2).at 1 _ rfl
          have q2 := (k2).at 2 _ rfl
          have p0 := (k2).free 0 _ rfl
          have p1 := (k2).free 1 _ rfl
          have p2 := (k2).free 2 _ rfl
          go_wp2_with fail
          refine bodyPost_ret (v := .tuple #[.agg #[.int .i64 3, .string ⟨#[]⟩, .int .i64 n2], .int .i64 0]) (by simp [results, Tryd.results91, go_sem, *]) rfl ?_
          exact one_ok ⟨rfl, ((hc2.other (by first | (simp; done) | (simp; omega) | omega) _).other (by first | (simp; done) | (simp; omega) | omega) _).other (by first | (simp; done) | (simp; omega) | omega) _, (by repeat (first | exact World.grownBy.refl _ _ | apply grown_drawN | apply grown_drew | apply grown_set | apply grown_alloc | (refine grown_new ?_ (by first | (simp; done) | (simp; omega) | omega) _ _) | exact gg2))⟩
        · rw [if_neg hn] at hR
          subst hR
          have e1 : (n1 != 0) = true := by rw [bne_iff_ne]; exact hn
          go_enter Tryd.func91, Tryd.ntmps91
          go_wp2_with fail
          refine (HN.out _ (hc.alloc _)).mono ?_
          rintro e w1 ⟨rfl, hc1, g1⟩
          have gg1 := grown_trans (grown_alloc (World.grownBy.refl w (some b)) (.cells #[.int .i64 0, .string ⟨#[]⟩, .int .i64 0] 124)) g1
          have k1 := (Blk.made w #[.int .i64 0, .string ⟨#[]⟩, .int .i64 0] 124).grown g1 hne
          go_wp2_with fail
          refine (HLt.out _).mono ?_
          rintro e w1' ⟨rfl, rfl⟩
          go_wp2_with fail
          refine (HDg.out _).mono ?_
          rintro e w1' ⟨rfl, rfl⟩
          go_wp2_with fail
          refine (HM.out _ hc1 (hEx.out _ gg1)).mono ?_
          intro e w2 hw2
          obtain ⟨rfl, hc2, g2⟩ : _ ∧ _ ∧ _ := hw2
          have gg2 := grown_trans gg1 g2
          have k2 := k1.grown g2 hne
          have q0 := (k2).at 0 _ rfl
          have q1 := (k2).at 1 _ rfl
          have q2 := (k2).at 2 _ rfl
          have p0 := (k2).free 0 _ rfl
          have p1 := (k2).free 1 _ rfl
          have p2 := (k2).free 2 _ rfl
          have hn := Lib.hid hn
          go_wp2_with fail
          refine bodyPost_ret (v := .tuple #[.agg #[.int .i64 0, .string ⟨#[]⟩, .int .i64 0], .int .i64 n1]) (by simp [results, Tryd.results91, go_sem, *]) rfl ?_
          exact one_bad hn.out ⟨rfl, (by repeat (first | exact World.grownBy.refl _ _ | apply grown_drawN | apply grown_drew | apply grown_set | apply grown_alloc | (refine grown_new ?_ (by first | (simp; done) | (simp; omega) | omega) _ _) | exact gg2))⟩
      | false =>
        rw [if_neg (by rw [hd]; decide)] at hR
        rw [hd] at HDg
        have HDg := Lib.hid HDg
        by_cases h34 : nx s i = 34
        · rw [if_pos h34] at hR
          have HS := fun W hc => ctext_calls b s i W hc hi hs
          rw [h34] at HN HLt HDg
          have HN := Lib.hid HN
          clear hl hd hby h34 hE e58
          generalize strAt s (i + 1) [] = sa at *
          have HS := Lib.hid HS
          cases sa with
          | none =>
            simp only at hR
            subst hR
            go_enter Tryd.func91, Tryd.ntmps91
            go_wp2_with fail
            refine (HN.out _ (hc.alloc _)).mono ?_
            rintro e w1 ⟨rfl, hc1, g1⟩
            have gg1 := grown_trans (grown_alloc (World.grownBy.refl w (some b)) (.cells #[.int .i64 0, .string ⟨#[]⟩, .int .i64 0] 124)) g1
            have k1 := (Blk.made w #[.int .i64 0, .string ⟨#[]⟩, .int .i64 0] 124).grown g1 hne
            go_wp2_with fail
            refine (HLt.out _).mono ?_
            rintro e w1' ⟨rfl, rfl⟩
            go_wp2_with fail
            refine (HDg.out _).mono ?_
            rintro e w1' ⟨rfl, rfl⟩
            go_wp2_with fail
            refine (HS.out _ hc1).mono ?_
            intro e w2 hw2
            obtain ⟨rfl, g2⟩ : _ ∧ _ := hw2
            have gg2 := grown_trans gg1 g2
            have k2 := k1.grown g2 hne
            have q0 := (k2).at 0 _ rfl
            have q1 := (k2).at 1 _ rfl
            have q2 := (k2).at 2 _ rfl
            have p0 := (k2).free 0 _ rfl
            have p1 := (k2).free 1 _ rfl
            have p2 := (k2).free 2 _ rfl
            go_wp2_with fail
            refine bodyPost_ret (v := .tuple #[.agg #[.int .i64 0, .string ⟨#[]⟩, .int .i64 0], .int .i64 4]) (by simp [results, Tryd.results91, go_sem, *]) rfl ?_
            exact one_bad (by decide) ⟨rfl, (by repeat (first | exact World.grownBy.refl _ _ | apply grown_drawN | apply grown_drew | apply grown_set | apply grown_alloc | (refine grown_new ?_ (by first | (simp; done) | (simp; omega) | omega) _ _) | exact gg2))⟩
          | some x =>
            obtain ⟨r, d⟩ := x
            simp only at hR
            subst hR
            go_enter Tryd.func91, Tryd.ntmps91
            go_wp2_with fail
            refine (HN.out _ (hc.alloc _)).mono ?_
            rintro e w1 ⟨rfl, hc1, g1⟩
            have gg1 := grown_trans (grown_alloc (World.grownBy.refl w (some b)) (.cells #[.int .i64 0, .string ⟨#[]⟩, .int .i64 0] 124)) g1
            have k1 := (Blk.made w #[.int .i64 0, .string ⟨#[]⟩, .int .i64 0] 124).grown g1 hne
            go_wp2_with fail
            refine (HLt.out _).mono ?_
            rintro e w1' ⟨rfl, rfl⟩
            go_wp2_with fail
            refine (HDg.out _).mono ?_
            rintro e w1' ⟨rfl, rfl⟩
            go_wp2_with fail
            refine (HS.out _ hc1).mono ?_
            intro e w2 hw2
            obtain ⟨rfl, hc2, g2⟩ : _ ∧ _ ∧ _ := hw2
            have gg2 := grown_trans gg1 g2
            have k2 := k1.grown g2 hne
            have q0 := (k2).at 0 _ rfl
            have q1 := (k2).at 1 _ rfl
            have q2 := (k2).at 2 _ rfl
            have p0 := (k2).free 0 _ rfl
            have p1 := (k2).free 1 _ rfl
            have p2 := (k2).free 2 _ rfl
            generalize (⟨r.toArray⟩ : ByteArray) = rt at *
            go_wp2_with fail
            refine bodyPost_ret (v := .tuple #[.agg #[.int .i64 4, .string rt, .int .i64 0], .int .i64 0]) (by simp [results, Tryd.results91, go_sem, *]) rfl ?_
            exact one_ok ⟨rfl, ((hc2.other (by first | (simp; done) | (simp; omega) | omega) _).other (by first | (simp; done) | (simp; omega) | omega) _).other (by first | (simp; done) | (simp; omega) | omega) _, (by repeat (first | exact World.grownBy.refl _ _ | apply grown_drawN | apply grown_drew | apply grown_set | apply grown_alloc | (refine grown_new ?_ (by first | (simp; done) | (simp; omega) | omega) _ _) | exact gg2))⟩
        · rw [if_neg h34] at hR
          have e34 : (nx s i == 34) = false := by rw [beq_eq_false_iff_ne]; exact h34
          have HI := fun w => mark_calls (nx s i) w hby.1 hby.2
          have hcv : ∀ (W : World) (bl : Nat), W.cell? ⟨bl, 0, none⟩ = some (.int .u8 (s[i].toNat : Int)) → (convert 120 9 (.slice (some ⟨bl, 0, none⟩) 1 1)).run Tryd.prog W = .ok (.string ⟨#[UInt8.ofNat s[i].toNat]⟩) W := fun W bl h => conv_one W bl _ s[i].toNat_lt h
          have hun : UInt8.ofNat s[i].toNat = s[i] := UInt8.ofNat_toNat
          rw [hun, ← ext_one hi] at hcv
          rw [← nx_in hi] at hcv
          have HN := Lib.hid HN
          clear hl hd hby h34 hE hun
          generalize s.extract i (i + 1) = tx at *
          generalize nx s i = c at *
          cases hm : markB c with
          | true =>
            rw [if_pos hm] at hR
            rw [hm] at HI
            have HI := Lib.hid HI
            subst hR
            clear hm
            have hcv := Lib.hid hcv
            go_enter Tryd.func91, Tryd.ntmps91
            go_wp2_with fail
            refine (HN.out _ (hc.alloc _)).mono ?_
            rintro e w1 ⟨rfl, hc1, g1⟩
            have gg1 := grown_trans (grown_alloc (World.grownBy.refl w (some b)) (.cells #[.int .i64 0, .string ⟨#[]⟩, .int .i64 0] 124)) g1
            have k1 := (Blk.made w #[.int .i64 0, .string ⟨#[]⟩, .int .i64 0] 124).grown g1 hne
            go_wp2_with fail
            refine (HLt.out _).mono ?_
            rintro e w1' ⟨rfl, rfl⟩
            go_wp2_with fail
            refine (HDg.out _).mono ?_
            rintro e w1' ⟨rfl, rfl⟩
            go_wp2_with fail
            refine (HI.out _).mono ?_
            rintro e w1' ⟨⟨j, rfl, hj⟩, rfl⟩
            have hc1' := hc1.setI ((i : Int) + 1) (i + 1) (by omega)
            have gg1' := grown_set gg1 1 (.int .i64 ((i : Int) + 1))
            have k1' := k1.other (c := b) (j := 1) (by first | (simp; done) | (simp; omega) | omega) (.int .i64 ((i : Int) + 1))
            have hcvW := hcv.out ((w1.setCell ⟨b, 1, none⟩ (.int .i64 ((i : Int) + 1))).alloc (.cells #[.int .u8 c] 5)) w1.heap.size ((Blk.made_at #[.int .u8 c] _ w1.heap.size (by simp)).at 0 _ rfl)
            have z1 := gg1.size
            have lt1_ := k1.lt
            have n1 : ¬ b = w.heap.size := by omega
            have n2 : ¬ w.heap.size = b := by omega
            have q0 := (k1).at 0 _ rfl
            have q1 := (k1).at 1 _ rfl
            have q2 := (k1).at 2 _ rfl
            have p0 := (k1).free 0 _ rfl
            have p1 := (k1).free 1 _ rfl
            have p2 := (k1).free 2 _ rfl
            obtain ⟨c0, c1, f0, f1, lt1⟩ := hc1
            go_wp2_with fail
            refine bodyPost_ret (v := .tuple #[.agg #[.int .i64 5, .string tx, .int .i64 0], .int .i64 0]) (by simp [results, Tryd.results91, go_sem, *]) rfl ?_
            exact one_ok ⟨rfl, (((hc1'.other (by first | (simp; done) | (simp; omega) | omega) _).other (by first | (simp; done) | (simp; omega) | omega) _).other (by first | (simp; done) | (simp; omega) | omega) _).alloc _, (by repeat (first | exact World.grownBy.refl _ _ | apply grown_drawN | apply grown_drew | apply grown_set | apply grown_alloc | (refine grown_new ?_ (by first | (simp; done) | (simp; omega) | omega) _ _) | exact gg1))⟩
          | false =>
            rw [if_neg (by rw [hm]; decide)] at hR
            rw [hm] at HI
            have HI := Lib.hid HI
            subst hR
            clear hm hcv
            go_enter Tryd.func91, Tryd.ntmps91
            go_wp2_with fail
            refine (HN.out _ (hc.alloc _)).mono ?_
            rintro e w1 ⟨rfl, hc1, g1⟩
            have gg1 := grown_trans (grown_alloc (World.grownBy.refl w (some b)) (.cells #[.int .i64 0, .string ⟨#[]⟩, .int .i64 0] 124)) g1
            have k1 := (Blk.made w #[.int .i64 0, .string ⟨#[]⟩, .int .i64 0] 124).grown g1 hne
            go_wp2_with fail
            refine (HLt.out _).mono ?_
            rintro e w1' ⟨rfl, rfl⟩
            go_wp2_with fail
            refine (HDg.out _).mono ?_
            rintro e w1' ⟨rfl, rfl⟩
            go_wp2_with fail
            refine (HI.out _).mono ?_
            rintro e w1' ⟨⟨j, rfl, hj⟩, rfl⟩
            have q0 := (k1).at 0 _ rfl
            have q1 := (k1).at 1 _ rfl
            have q2 := (k1).at 2 _ rfl
            have p0 := (k1).free 0 _ rfl
            have p1 := (k1).free 1 _ rfl
            have p2 := (k1).free 2 _ rfl
            go_wp2_with fail
            refine bodyPost_ret (v := .tuple #[.agg #[.int .i64 0, .string ⟨#[]⟩, .int .i64 0], .int .i64 3]) (by simp [results, Tryd.results91, go_sem, *]) rfl ?_
            exact one_bad (by decide) ⟨rfl, (by repeat (first | exact World.grownBy.refl _ _ | apply grown_drawN | apply grown_drew | apply grown_set | apply grown_alloc | (refine grown_new ?_ (by first | (simp; done) | (simp; omega) | omega) _ _) | exact gg1))⟩
end Go.Proofs.YtpeenmbonhijmaaDoor.H
