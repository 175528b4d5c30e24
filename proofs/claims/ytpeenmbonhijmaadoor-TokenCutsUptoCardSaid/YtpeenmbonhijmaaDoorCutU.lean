/- Scripts cut into tokens: the reference's tokenAt: the walk. -/
import Derived.Test.YtpeenmbonhijmaaDoorCutS
import Derived.Test.YtpeenmbonhijmaaDoorCutT
import Derived.Test.YtpeenmbonhijmaaDoorCutG
namespace Go.Proofs.YtpeenmbonhijmaaDoor.H
open Go.RowKit Go.Proofs.YtpeenmbonhijmaaDoorW.PrintWords Go.Proofs.YtpeenmbonhijmaaDoorW.PrintLast Go.Proofs.YtpeenmbonhijmaaDoorW.PrintMore Go.Proofs.YtpeenmbonhijmaaDoor.U
set_option linter.unusedVariables false
set_option linter.unusedSimpArgs false
/-- What the reference's tokenAt hands back. -/
def PostRt (w : World) (R : Int × AToken × Nat) (e : Ending) (w' : World) : Prop :=
  if R.1 = 0 then e = .returned (.tuple #[.agg #[.int .i64 R.2.1.kind, .string R.2.1.text, .int .i64 R.2.1.number], .int .i64 (R.2.2 : Int), .int .i64 0]) ∧ Below w.heap.size w w'
  else (∃ (k : Int) (t : ByteArray) (n : Int) (p : Nat), e = .returned (.tuple #[.agg #[.int .i64 k, .string t, .int .i64 n], .int .i64 (p : Int), .int .i64 R.1])) ∧ Below w.heap.size w w'
theorem rt_ok {w w' : World} {d : Nat} {t : AToken} {e : Ending} (h : e = .returned (.tuple #[.agg #[.int .i64 t.kind, .string t.text, .int .i64 t.number], .int .i64 (d : Int), .int .i64 0]) ∧ Below w.heap.size w w') : PostRt w (0, t, d) e w' := by
  unfold PostRt; rw [if_pos rfl]; exact h
theorem rt_bad {w w' : World} {d : Nat} {t : AToken} {n : Int} {e : Ending} (hn : n ≠ 0) (k : Int) (x : ByteArray) (m : Int) (p : Nat) (h : e = .returned (.tuple #[.agg #[.int .i64 k, .string x, .int .i64 m], .int .i64 (p : Int), .int .i64 n]) ∧ Below w.heap.size w w') : PostRt w (n, t, d) e w' := by
  unfold PostRt; rw [if_neg hn]; exact ⟨⟨k, x, m, p, h.1⟩, h.2⟩
set_option maxHeartbeats 40000000 in
set_option maxRecDepth 100000 in
theorem rtoken_calls (s : ByteArray) (i : Nat) (w : World) (hi : i < s.size) (hs : s.size ≤ 1048576) :
    Calls Tryd.prog 93 #[.string s, .int .i64 i] w (PostRt w (tokAt s i)) := by
  generalize hR : tokAt s i = R
  unfold tokAt at hR
  have hnx := nx_in hi
  have hby := nx_byte s i
  have i0 : (0 : Int) ≤ (i : Int) := by omega
  have i1 : (i : Int) < (s.size : Int) := by omega
  have b0 := s[i].toNat_lt
  rw [hnx] at hR hby
  have k0 := Blk.made w #[.int .i64 0, .string ⟨#[]⟩, .int .i64 0] 124
  have HL := fun w => letterByte_calls s[i].toNat w hby.1 hby.2
  cases hL : letterB s[i].toNat with
  | true =>
    rw [if_pos hL] at hR
    rw [hL] at HL
    subst hR
    have HW := fun w => refWordEnd_calls s i w (by omega) (by omega)
    have hj1 := span_ge wordB s i (by omega)
    have hj2 := span_le wordB s i (by omega)
    generalize spanEnd wordB s i = j at *
    have j1 : (i : Int) ≤ (j : Int) := by omega
    have j2 : (j : Int) ≤ (s.size : Int) := by omega
    have HL := Lib.hid HL
    have HW := Lib.hid HW
    clear hL hnx hby
    have q0 := (k0).at 0 _ rfl
    have q1 := (k0).at 1 _ rfl
    have q2 := (k0).at 2 _ rfl
    have p0 := (k0).free 0 _ rfl
    have p1 := (k0).free 1 _ rfl
    have p2 := (k0).free 2 _ rfl
    clear k0
    go_enter Tryd.func93, Tryd.ntmps93
    go_wp2_with (first | (go_at_call 134; with_reducible refine (HL.out _).mono ?_; rintro e w1 ⟨rfl, rfl⟩) | (go_at_call 134; with_reducible refine (HL2.out _).mono ?_; rintro e w1 ⟨rfl, rfl⟩) | (go_at_call 146; refine (HD.out _).mono ?_; rintro e w1 ⟨rfl, rfl⟩) | (go_at_call 133; refine (HMk.out _).mono ?_; rintro e w1 ⟨rfl, rfl⟩) | (go_at_call 145; refine (HA.out _).mono ?_; rintro e w1 ⟨rfl, rfl⟩) | (go_at_call 135; refine (HW.out _).mono ?_; rintro e w1 ⟨rfl, rfl⟩) | (go_at_call 147; refine (HN.out _).mono ?_; rintro e w1 ⟨rfl, rfl⟩))
    refine bodyPost_ret (v := .tuple #[.agg #[.int .i64 1, .string (s.extract i j), .int .i64 0], .int .i64 j, .int .i64 0]) (by simp [results, Tryd.results93, go_sem, *]) rfl ?_
    exact rt_ok ⟨rfl, (by repeat (first | exact Below.refl _ _ | apply below_alloc | apply pw_below_drewN | apply below_drew1 | (refine Below.setCell ?_ (by first | (simp; done) | (simp; omega) | omega) _) ))⟩
  | false =>
    rw [hL] at hR HL
    have HL := Lib.hid HL
    rw [if_neg (by decide)] at hR
    by_cases h58 : (s[i].toNat : Int) = 58
    · rw [if_pos h58] at hR
      have e1 : ((s[i].toNat : Int) == 58) = true := by rw [beq_iff_eq]; exact h58
      have HA : ∀ w, Calls Tryd.prog 145 #[.string s, .int .i64 ((i : Int) + 1)] w fun e w' => e = .returned (.int .u8 (nx s (i + 1))) ∧ w = w' := fun w => at_calls s (i + 1) w (by omega) (by omega)
      have HA := Lib.hid HA
      have hb2 := nx_byte s (i + 1)
      have HL2 := fun w => letterByte_calls (nx s (i + 1)) w hb2.1 hb2.2
      cases hL2 : letterB (nx s (i + 1)) with
      | true =>
        rw [if_pos hL2] at hR
        rw [hL2] at HL2
        subst hR
        have HW : ∀ w, Calls Tryd.prog 135 #[.string s, .int .i64 ((i : Int) + 1)] w fun e w' => e = .returned (.int .i64 (spanEnd wordB s (i + 1))) ∧ w = w' := fun w => refWordEnd_calls s (i + 1) w (by omega) (by omega)
        have hj1 := span_ge wordB s (i + 1) (by omega)
        have hj2 := span_le wordB s (i + 1) (by omega)
        generalize spanEnd wordB s (i + 1) = j at *
        have j0 : (0 : Int) ≤ (i : Int) + 1 := by omega
        have j1 : (i : Int) + 1 ≤ (j : Int) := by omega
        have j2 : (j : Int) ≤ (s.size : Int) := by omega
        have j3 : ((i : Int) + 1).toNat = i + 1 := by omega
        have HW := Lib.hid HW
        have HL2 := Lib.hid HL2
        generalize nx s (i + 1) = c at *
        clear hL hnx hby h58 hL2 hb2
        have q0 := (k0).at 0 _ rfl
        have q1 := (k0).at 1 _ rfl
        have q2 := (k0).at 2 _ rfl
        have p0 := (k0).free 0 _ rfl
        have p1 := (k0).free 1 _ rfl
        have p2 := (k0).free 2 _ rfl
        clear k0
        go_enter Tryd.func93, Tryd.ntmps93
        go_wp2_with (first | (go_at_call 134; with_reducible refine (HL.out _).mono ?_; rintro e w1 ⟨rfl, rfl⟩) | (go_at_call 134; with_reducible refine (HL2.out _).mono ?_; rintro e w1 ⟨rfl, rfl⟩) | (go_at_call 146; refine (HD.out _).mono ?_; rintro e w1 ⟨rfl, rfl⟩) | (go_at_call 133; refine (HMk.out _).mono ?_; rintro e w1 ⟨rfl, rfl⟩) | (go_at_call 145; refine (HA.out _).mono ?_; rintro e w1 ⟨rfl, rfl⟩) | (go_at_call 135; refine (HW.out _).mono ?_; rintro e w1 ⟨rfl, rfl⟩) | (go_at_call 147; refine (HN.out _).mono ?_; rintro e w1 ⟨rfl, rfl⟩))
        refine bodyPost_ret (v := .tuple #[.agg #[.int .i64 2, .string (s.extract (i + 1) j), .int .i64 0], .int .i64 j, .int .i64 0]) (by simp [results, Tryd.results93, go_sem, *]) rfl ?_
        exact rt_ok ⟨rfl, (by repeat (first | exact Below.refl _ _ | apply below_alloc | apply pw_below_drewN | apply below_drew1 | (refine Below.setCell ?_ (by first | (simp; done) | (simp; omega) | omega) _) ))⟩
      | false =>
        rw [hL2] at hR HL2
        rw [if_neg (by decide)] at hR
        subst hR
        have HL2 := Lib.hid HL2
        generalize nx s (i + 1) = c at *
        have HD := fun w => digitByte_calls s[i].toNat w hby.1 hby.2
        have HMk := fun w => markByte_calls s[i].toNat w
        rw [show digitB (s[i].toNat : Int) = false by rw [h58]; decide] at HD
        rw [show markB (s[i].toNat : Int) = false by rw [h58]; decide] at HMk
        have e2 : ((s[i].toNat : Int) == 34) = false := by rw [beq_eq_false_iff_ne]; omega
        have HD := Lib.hid HD
        have HMk := Lib.hid HMk
        clear hL hnx hby h58 hL2 hb2
        have q0 := (k0).at 0 _ rfl
        have q1 := (k0).at 1 _ rfl
        have q2 := (k0).at 2 _ rfl
        have p0 := (k0).free 0 _ rfl
        have p1 := (k0).free 1 _ rfl
        have p2 := (k0).free 2 _ rfl
        clear k0
        go_enter Tryd.func93, Tryd.ntmps93
        go_wp2_with (first | (go_at_call 134; with_reducible refine (HL.out _).mono ?_; rintro e w1 ⟨rfl, rfl⟩) | (go_at_call 134; with_reducible refine (HL2.out _).mono ?_; rintro e w1 ⟨rfl, rfl⟩) | (go_at_call 146; refine (HD.out _).mono ?_; rintro e w1 ⟨rfl, rfl⟩) | (go_at_call 133; refine (HMk.out _).mono ?_; rintro e w1 ⟨rfl, rfl⟩) | (go_at_call 145; refine (HA.out _).mono ?_; rintro e w1 ⟨rfl, rfl⟩) | (go_at_call 135; refine (HW.out _).mono ?_; rintro e w1 ⟨rfl, rfl⟩) | (go_at_call 147; refine (HN.out _).mono ?_; rintro e w1 ⟨rfl, rfl⟩))
        refine bodyPost_ret (v := .tuple #[.agg #[.int .i64 0, .string ⟨#[]⟩, .int .i64 0], .int .i64 i, .int .i64 3]) (by simp [results, Tryd.results93, go_sem, *]) rfl ?_
        exact rt_bad (by decide) 0 ⟨#[]⟩ 0 i ⟨rfl, (by repeat (first | exact Below.refl _ _ | apply below_alloc | apply pw_below_drewN | apply below_drew1 | (refine Below.setCell ?_ (by first | (simp; done) | (simp; omega) | omega) _) ))⟩
    · rw [if_neg h58] at hR
      have e1 : ((s[i].toNat : Int) == 58) = false := by rw [beq_eq_false_iff_ne]; exact h58
      have HD := fun w => digitByte_calls s[i].toNat w hby.1 hby.2
      cases hD : digitB s[i].toNat with
      | true =>
        rw [if_pos hD] at hR
        rw [hD] at HD
        have HD := Lib.hid HD
        have HN := fun w => rnumber_calls s i w (by omega) hs
        rcases hQ : numAt s i with ⟨er, n, p⟩
        rw [hQ] at hR HN
        simp only at hR HN
        have HN := Lib.hid HN
        clear hL hnx hby h58 hD hQ
        have q0 := (k0).at 0 _ rfl
        have q1 := (k0).at 1 _ rfl
        have q2 := (k0).at 2 _ rfl
        have p0 := (k0).free 0 _ rfl
        have p1 := (k0).free 1 _ rfl
        have p2 := (k0).free 2 _ rfl
        clear k0
        by_cases h0 : er = 0
        · rw [if_pos h0] at hR
          subst hR
          subst h0
          go_enter Tryd.func93, Tryd.ntmps93
          go_wp2_with (first | (go_at_call 134; with_reducible refine (HL.out _).mono ?_; rintro e w1 ⟨rfl, rfl⟩) | (go_at_call 134; with_reducible refine (HL2.out _).mono ?_; rintro e w1 ⟨rfl, rfl⟩) | (go_at_call 146; refine (HD.out _).mono ?_; rintro e w1 ⟨rfl, rfl⟩) | (go_at_call 133; refine (HMk.out _).mono ?_; rintro e w1 ⟨rfl, rfl⟩) | (go_at_call 145; refine (HA.out _).mono ?_; rintro e w1 ⟨rfl, rfl⟩) | (go_at_call 135; refine (HW.out _).mono ?_; rintro e w1 ⟨rfl, rfl⟩) | (go_at_call 147; refine (HN.out _).mono ?_; rintro e w1 ⟨rfl, rfl⟩))
          refine bodyPost_ret (v := .tuple #[.agg #[.int .i64 3, .string ⟨#[]⟩, .int .i64 n], .int .i64 p, .int .i64 0]) (by simp [results, Tryd.results93, go_sem, *]) rfl ?_
          exact rt_ok ⟨rfl, (by repeat (first | exact Below.refl _ _ | apply below_alloc | apply pw_below_drewN | apply below_drew1 | (refine Below.setCell ?_ (by first | (simp; done) | (simp; omega) | omega) _) ))⟩
        · rw [if_neg h0] at hR
          subst hR
          have h0 := Lib.hid h0
          go_enter Tryd.func93, Tryd.ntmps93
          go_wp2_with (first | (go_at_call 134; with_reducible refine (HL.out _).mono ?_; rintro e w1 ⟨rfl, rfl⟩) | (go_at_call 134; with_reducible refine (HL2.out _).mono ?_; rintro e w1 ⟨rfl, rfl⟩) | (go_at_call 146; refine (HD.out _).mono ?_; rintro e w1 ⟨rfl, rfl⟩) | (go_at_call 133; refine (HMk.out _).mono ?_; rintro e w1 ⟨rfl, rfl⟩) | (go_at_call 145; refine (HA.out _).mono ?_; rintro e w1 ⟨rfl, rfl⟩) | (go_at_call 135; refine (HW.out _).mono ?_; rintro e w1 ⟨rfl, rfl⟩) | (go_at_call 147; refine (HN.out _).mono ?_; rintro e w1 ⟨rfl, rfl⟩))
          refine bodyPost_ret (v := .tuple #[.agg #[.int .i64 3, .string ⟨#[]⟩, .int .i64 n], .int .i64 p, .int .i64 er]) (by simp [results, Tryd.results93, go_sem, *]) rfl ?_
          exact rt_bad h0.out 3 ⟨#[]⟩ n p ⟨rfl, (by repeat (first | exact Below.refl _ _ | apply below_alloc | apply pw_below_drewN | apply below_drew1 | (refine Below.setCell ?_ (by first | (simp; done) | (simp; omega) | omega) _) ))⟩
      | false =>
        rw [hD] at hR HD
        rw [if_neg (by decide)] at hR
        have HD := Lib.hid HD
        by_cases h34 : (s[i].toNat : Int) = 34
        · rw [if_pos h34] at hR
          have e2 : ((s[i].toNat : Int) == 34) = true := by rw [beq_iff_eq]; exact h34
          have HS := fun w => rstring_calls s i w hi hs
          cases hQ : strAt s (i + 1) [] with
          | none =>
            rw [hQ] at hR HS
            simp only at hR
            subst hR
            have HS := Lib.hid HS
            clear hL hnx hby h58 hD hQ h34
            go_enter Tryd.func93, Tryd.ntmps93
            go_wp2_with (first | (go_at_call 134; with_reducible refine (HL.out _).mono ?_; rintro e w1 ⟨rfl, rfl⟩) | (go_at_call 134; with_reducible refine (HL2.out _).mono ?_; rintro e w1 ⟨rfl, rfl⟩) | (go_at_call 146; refine (HD.out _).mono ?_; rintro e w1 ⟨rfl, rfl⟩) | (go_at_call 133; refine (HMk.out _).mono ?_; rintro e w1 ⟨rfl, rfl⟩) | (go_at_call 145; refine (HA.out _).mono ?_; rintro e w1 ⟨rfl, rfl⟩) | (go_at_call 135; refine (HW.out _).mono ?_; rintro e w1 ⟨rfl, rfl⟩) | (go_at_call 147; refine (HN.out _).mono ?_; rintro e w1 ⟨rfl, rfl⟩))
            refine (HS.out _).mono ?_
            intro e w2 hw2
            obtain ⟨d, rfl, hb2⟩ := hw2
            have k2 := k0.below hb2 (by simp)
            clear k0
            have q0 := (k2).at 0 _ rfl
            have q1 := (k2).at 1 _ rfl
            have q2 := (k2).at 2 _ rfl
            have p0 := (k2).free 0 _ rfl
            have p1 := (k2).free 1 _ rfl
            have p2 := (k2).free 2 _ rfl
            have z2 := hb2.size
            go_wp2_with fail
            refine bodyPost_ret (v := .tuple #[.agg #[.int .i64 0, .string ⟨#[]⟩, .int .i64 0], .int .i64 d, .int .i64 4]) (by simp [results, Tryd.results93, go_sem, *]) rfl ?_
            exact rt_bad (by decide) 0 ⟨#[]⟩ 0 d ⟨rfl, (by repeat (first | exact Below.refl _ _ | apply below_alloc | apply pw_below_drewN | apply below_drew1 | (refine Below.setCell ?_ (by first | (simp; done) | (simp; omega) | omega) _) | (refine below_then ?_ (by first | (simp; done) | (simp; omega) | omega) hb2)))⟩
          | some x =>
            obtain ⟨r, d⟩ := x
            rw [hQ] at hR HS
            simp only at hR
            subst hR
            have HS := Lib.hid HS
            clear hL hnx hby h58 hD hQ h34
            go_enter Tryd.func93, Tryd.ntmps93
            go_wp2_with (first | (go_at_call 134; with_reducible refine (HL.out _).mono ?_; rintro e w1 ⟨rfl, rfl⟩) | (go_at_call 134; with_reducible refine (HL2.out _).mono ?_; rintro e w1 ⟨rfl, rfl⟩) | (go_at_call 146; refine (HD.out _).mono ?_; rintro e w1 ⟨rfl, rfl⟩) | (go_at_call 133; refine (HMk.out _).mono ?_; rintro e w1 ⟨rfl, rfl⟩) | (go_at_call 145; refine (HA.out _).mono ?_; rintro e w1 ⟨rfl, rfl⟩) | (go_at_call 135; refine (HW.out _).mono ?_; rintro e w1 ⟨rfl, rfl⟩) | (go_at_call 147; refine (HN.out _).mono ?_; rintro e w1 ⟨rfl, rfl⟩))
            refine (HS.out _).mono ?_
            intro e w2 hw2
            obtain ⟨rfl, hb2⟩ : _ ∧ _ := hw2
            have k2 := k0.below hb2 (by simp)
            clear k0
            have q0 := (k2).at 0 _ rfl
            have q1 := (k2).at 1 _ rfl
            have q2 := (k2).at 2 _ rfl
            have p0 := (k2).free 0 _ rfl
            have p1 := (k2).free 1 _ rfl
            have p2 := (k2).free 2 _ rfl
            have z2 := hb2.size
            generalize (⟨r.toArray⟩ : ByteArray) = rt at *
            go_wp2_with fail
            refine bodyPost_ret (v := .tuple #[.agg #[.int .i64 4, .string rt, .int .i64 0], .int .i64 d, .int .i64 0]) (by simp [results, Tryd.results93, go_sem, *]) rfl ?_
            exact rt_ok ⟨rfl, (by repeat (first | exact Below.refl _ _ | apply below_alloc | apply pw_below_drewN | apply below_drew1 | (refine Below.setCell ?_ (by first | (simp; done) | (simp; omega) | omega) _) | (refine below_then ?_ (by first | (simp; done) | (simp; omega) | omega) hb2)))⟩
        · rw [if_neg h34] at hR
          have e2 : ((s[i].toNat : Int) == 34) = false := by rw [beq_eq_false_iff_ne]; exact h34
          have HMk := fun w => markByte_calls s[i].toNat w
          cases hm : markB s[i].toNat with
          | true =>
            rw [if_pos hm] at hR
            rw [hm] at HMk
            subst hR
            have HMk := Lib.hid HMk
            have hcv := conv_one ((w.alloc (.cells #[.int .i64 0, .string ⟨#[]⟩, .int .i64 0] 124)).alloc (.cells #[.int .u8 s[i].toNat] 5)) (w.heap.size + 1) s[i].toNat s[i].toNat_lt ((Blk.made_at #[.int .u8 s[i].toNat] _ (w.heap.size + 1) (by simp)).at 0 _ rfl)
            have hun : UInt8.ofNat s[i].toNat = s[i] := UInt8.ofNat_toNat
            rw [hun, ← ext_one hi] at hcv
            clear hL hnx hby h58 hD hm h34 hun
            have q0 := (k0).at 0 _ rfl
            have q1 := (k0).at 1 _ rfl
            have q2 := (k0).at 2 _ rfl
            have p0 := (k0).free 0 _ rfl
            have p1 := (k0).free 1 _ rfl
            have p2 := (k0).free 2 _ rfl
            clear k0
            generalize s.extract i (i + 1) = tx at *
            go_enter Tryd.func93, Tryd.ntmps93
            go_wp2_with (first | (go_at_call 134; with_reducible refine (HL.out _).mono ?_; rintro e w1 ⟨rfl, rfl⟩) | (go_at_call 134; with_reducible refine (HL2.out _).mono ?_; rintro e w1 ⟨rfl, rfl⟩) | (go_at_call 146; refine (HD.out _).mono ?_; rintro e w1 ⟨rfl, rfl⟩) | (go_at_call 133; refine (HMk.out _).mono ?_; rintro e w1 ⟨rfl, rfl⟩) | (go_at_call 145; refine (HA.out _).mono ?_; rintro e w1 ⟨rfl, rfl⟩) | (go_at_call 135; refine (HW.out _).mono ?_; rintro e w1 ⟨rfl, rfl⟩) | (go_at_call 147; refine (HN.out _).mono ?_; rintro e w1 ⟨rfl, rfl⟩))
            refine bodyPost_ret (v := .tuple #[.agg #[.int .i64 5, .string tx, .int .i64 0], .int .i64 ((i : Int) + 1), .int .i64 0]) (by simp [results, Tryd.results93, go_sem, *]) rfl ?_
            exact rt_ok ⟨by simp, (by repeat (first | exact Below.refl _ _ | apply below_alloc | apply pw_below_drewN | apply below_drew1 | (refine Below.setCell ?_ (by first | (simp; done) | (simp; omega) | omega) _) ))⟩
          | false =>
            rw [hm] at hR HMk
            rw [if_neg (by decide)] at hR
            subst hR
            have HMk := Lib.hid HMk
            clear hL hnx hby h58 hD hm h34
            have q0 := (k0).at 0 _ rfl
            have q1 := (k0).at 1 _ rfl
            have q2 := (k0).at 2 _ rfl
            have p0 := (k0).free 0 _ rfl
            have p1 := (k0).free 1 _ rfl
            have p2 := (k0).free 2 _ rfl
            clear k0
            go_enter Tryd.func93, Tryd.ntmps93
            go_wp2_with (first | (go_at_call 134; with_reducible refine (HL.out _).mono ?_; rintro e w1 ⟨rfl, rfl⟩) | (go_at_call 134; with_reducible refine (HL2.out _).mono ?_; rintro e w1 ⟨rfl, rfl⟩) | (go_at_call 146; refine (HD.out _).mono ?_; rintro e w1 ⟨rfl, rfl⟩) | (go_at_call 133; refine (HMk.out _).mono ?_; rintro e w1 ⟨rfl, rfl⟩) | (go_at_call 145; refine (HA.out _).mono ?_; rintro e w1 ⟨rfl, rfl⟩) | (go_at_call 135; refine (HW.out _).mono ?_; rintro e w1 ⟨rfl, rfl⟩) | (go_at_call 147; refine (HN.out _).mono ?_; rintro e w1 ⟨rfl, rfl⟩))
            refine bodyPost_ret (v := .tuple #[.agg #[.int .i64 0, .string ⟨#[]⟩, .int .i64 0], .int .i64 i, .int .i64 3]) (by simp [results, Tryd.results93, go_sem, *]) rfl ?_
            exact rt_bad (by decide) 0 ⟨#[]⟩ 0 i ⟨rfl, (by repeat (first | exact Below.refl _ _ | apply below_alloc | apply pw_below_drewN | apply below_drew1 | (refine Below.setCell ?_ (by first | (simp; done) | (simp; omega) | omega) _) ))⟩
end Go.Proofs.YtpeenmbonhijmaaDoor.H
