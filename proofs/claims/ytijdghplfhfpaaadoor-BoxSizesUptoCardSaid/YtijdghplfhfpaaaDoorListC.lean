/- Lists of addresses: the reader's address: the walk. -/
import Derived.Test.YtijdghplfhfpaaaDoorListB
namespace Go.Proofs.YtijdghplfhfpaaaDoor.H
open Go.RowKit Go.Proofs.YtijdghplfhfpaaaDoorW.PrintWords Go.Proofs.YtijdghplfhfpaaaDoorW.PrintLast Go.Proofs.YtijdghplfhfpaaaDoorW.PrintMore Go.Proofs.YtijdghplfhfpaaaDoor.U
set_option linter.unusedVariables false
set_option linter.unusedSimpArgs false
theorem bare_le {ok : ByteArray → ByteArray → Bool} {s loc : ByteArray} {e d : Nat} {a : AAddress} (h : bareP ok s e loc = some (a, d)) : d ≤ s.size := by
  unfold bareP at h
  split at h
  · rename_i h64
    have := nx_lt (s := s) (i := e) (by rw [h64]; decide)
    split at h
    · cases h; exact span_le runB s _ (by omega)
    · cases h
  · cases h
set_option maxHeartbeats 1000000 in
set_option maxRecDepth 100000 in
theorem raddress_calls (b : Nat) (s : ByteArray) (i : Nat) (m : Int) (w : World) (hc : Cur w b s i) (hi : i ≤ s.size) (hs : s.size ≤ 1048576) (hm : w.cell? ⟨6, 0, none⟩ = some (.int .i64 m)) (hg : 6 < b) :
    Calls Tryd.prog 146 #[.pointer (some ⟨b, 0, none⟩)] w (PostB w b s (addrP okAddr s i true)) := by
  generalize hR : addrP okAddr s i true = R
  have ltb := hc.lt
  have hne : some w.heap.size ≠ some b := by simp; omega
  have hM : ∀ W, w.grownBy W (some b) → W.cell? ⟨6, 0, none⟩ = some (.int .i64 m) := fun W h => grown_cell h hm (by omega) (by simp; omega)
  have hM := Lib.hid hM
  clear hm
  go_enter Tryd.func146, Tryd.ntmps146
  go_wp2_with fail
  go_loopw [3] (fun v wr => ∃ k i' : Nat, k ≤ i' ∧ i' ≤ s.size ∧ v = .int .i64 k ∧ Cur wr b s i' ∧ addrP okAddr s i' (decide (k = 0)) = R ∧ Blk wr w.heap.size [.string ⟨#[]⟩, .string ⟨#[]⟩] ∧ w.grownBy wr (some b)) (fun _ wr => s.size - placeOf wr b)
  case atStart => exact ⟨0, i, Nat.zero_le _, hi, rfl, hc.alloc _, hR, Blk.made _ _ _, World.grownBy_alloc _ _ _⟩
  case round =>
    clear hc hR
    obtain ⟨k, i', hk, hi', rfl, hc, hR, k0, gg0⟩ := hrel
    have hp2 := hc.place
    have HS := Lib.hid (fun W hc => rskip_calls b s i' W hc hi' (by omega))
    have hj1 := span_ge blankB s i' hi'
    have hj2 := span_le blankB s i' hi'
    have HN := Lib.hid (fun W hc => rnext_cur b s (spanEnd blankB s i') W hc hj2 (by omega))
    rw [addrP] at hR
    generalize spanEnd blankB s i' = j at *
    by_cases h1 : nx s j = 34
    · rw [if_pos h1] at hR
      rw [h1] at HN
      have hjl := nx_lt (s := s) (i := j) (by rw [h1]; decide)
      have HQ := fun W hc => rquoted_calls b s j W hc hjl (by omega)
      have hq := fun k => qEnd_gt s _ (j + 1) k (Nat.le_refl _)
      clear h1
      generalize qEnd s (j + 1) = qe at *
      have HQ := Lib.hid HQ
      cases qe with
      | none =>
        simp only at hR
        subst hR
        go_wp2_with fail
        refine (HS.out _ hc).mono ?_
        rintro e w1 ⟨rfl, hc1, g1⟩
        have gg1 := grown_trans gg0 g1
        have k1 := k0.grown g1 hne
        go_wp2_with fail
        refine (HN.out _ hc1).mono ?_
        rintro e w2 ⟨rfl, hc2, g2⟩
        have gg2 := grown_trans gg1 g2
        have k2 := k1.grown g2 hne
        go_wp2_with fail
        refine (HQ.out _ hc2).mono ?_
        intro e w3 h3
        obtain ⟨rfl, g3⟩ : _ ∧ _ := h3
        go_wp2_with fail
        exact ⟨rfl, rfl, grown_trans gg2 g3⟩
      | some q =>
        have hq := hq q rfl
        simp only at hR
        rw [if_pos ⟨by omega, hq.2⟩] at hR
        have hR := Lib.hid hR
        go_wp2_with fail
        refine (HS.out _ hc).mono ?_
        rintro e w1 ⟨rfl, hc1, g1⟩
        have gg1 := grown_trans gg0 g1
        have k1 := k0.grown g1 hne
        go_wp2_with fail
        refine (HN.out _ hc1).mono ?_
        rintro e w2 ⟨rfl, hc2, g2⟩
        have gg2 := grown_trans gg1 g2
        have k2 := k1.grown g2 hne
        go_wp2_with fail
        refine (HQ.out _ hc2).mono ?_
        intro e w3 h3
        obtain ⟨rfl, hc3, g3⟩ : _ ∧ _ ∧ _ := h3
        have gg3 := grown_trans gg2 g3
        have k3 := k2.grown g3 hne
        go_wp2_with fail
        go_roundw
        case rel => exact ⟨k + 1, q, by omega, hq.2, by go_num, hc3, by simpa using hR.out, k3, gg3⟩
        case measure => rw [hp2, hc3.place]; omega
    · rw [if_neg h1] at hR
      by_cases h2 : nx s j = 60
      · rw [if_pos h2] at hR
        rw [h2] at HN
        have hjl := nx_lt (s := s) (i := j) (by rw [h2]; decide)
        have HRn := Lib.hid (fun W hc => rrun_calls b s (j + 1) W hc hjl (by omega))
        unfold angP at hR
        have he := span_le runB s (j + 1) (by omega)
        generalize spanEnd runB s (j + 1) = e1 at *
        have hz : (s.extract (j + 1) e1).size ≤ 1048576 := by rw [ext_size he]; omega
        have HB := fun W hc hm => rbare_calls b s (s.extract (j + 1) e1) e1 m W hc he hs hz hm hg
        have hbl := fun a d => bare_le (ok := okAddr) (s := s) (e := e1) (loc := s.extract (j + 1) e1) (a := a) (d := d)
        generalize bareP okAddr s e1 (s.extract (j + 1) e1) = B at *
        generalize s.extract (j + 1) e1 = loc at *
        have HB := Lib.hid HB
        clear h1 h2
        go_wp2_with fail
        refine (HS.out _ hc).mono ?_
        rintro e w1 ⟨rfl, hc1, g1⟩
        have gg1 := grown_trans gg0 g1
        have k1 := k0.grown g1 hne
        go_wp2_with fail
        refine (HN.out _ hc1).mono ?_
        rintro e w2 ⟨rfl, hc2, g2⟩
        have gg2 := grown_trans gg1 g2
        have k2 := k1.grown g2 hne
        have hcA := hc2.setI ((j : Int) + 1) (j + 1) (by omega)
        have kA := k2.other (c := b) (j := 1) (by first | (simp; done) | (simp; omega) | omega) (.int .i64 ((j : Int) + 1))
        have ggA := grown_set gg2 1 (.int .i64 ((j : Int) + 1))
        obtain ⟨c0, c1, f0, f1, lt2⟩ := hc2
        go_wp2_with fail
        refine (HRn.out _ hcA).mono ?_
        rintro e w3 ⟨rfl, hc3, g3⟩
        have gg3 := grown_trans ggA g3
        have k3 := kA.grown g3 hne
        cases B with
        | none =>
          simp only at hR
          subst hR
          go_wp2_with fail
          refine (HB.out _ hc3 (hM.out _ gg3)).mono ?_
          intro e w4 h4
          obtain ⟨rfl, g4⟩ : _ ∧ _ := h4
          go_wp2_with fail
          exact ⟨rfl, rfl, grown_trans gg3 g4⟩
        | some x =>
          obtain ⟨a, d⟩ := x
          have hd := hbl a d rfl
          simp only at hR
          have HN2 := Lib.hid (fun W hc => rnext_cur b s d W hc hd (by omega))
          go_wp2_with fail
          refine (HB.out _ hc3 (hM.out _ gg3)).mono ?_
          intro e w4 h4
          obtain ⟨rfl, hc4, g4⟩ : _ ∧ _ ∧ _ := h4
          have gg4 := grown_trans gg3 g4
          have k4 := k3.grown g4 hne
          have z4 := gg4.size
          have kB := k4.alloc (.cells #[.string a.loc, .string a.dom] 49)
          have lB := Blk.made w4 #[.string a.loc, .string a.dom] 49
          have hcB := hc4.alloc (.cells #[.string a.loc, .string a.dom] 49)
          have ggB := grown_alloc gg4 (.cells #[.string a.loc, .string a.dom] 49)
          have lt4 := hc4.lt
          by_cases h62 : nx s d = 62
          · rw [if_pos h62] at hR
            subst hR
            rw [h62] at HN2
            go_wp2_with fail
            refine (HN2.out _ hcB).mono ?_
            rintro e w5 ⟨rfl, hc5, g5⟩
            have gg5 := grown_trans ggB g5
            have k5 := kB.grown g5 hne
            have l5 := lB.grown g5 (by first | (simp; done) | (simp; omega) | omega)
            go_wp2_with fail
            refine (must_yes _).mono ?_
            rintro e w5' ⟨rfl, rfl⟩
            have hc6 := hc5.setI ((d : Int) + 1) (d + 1) (by omega)
            have k6 := k5.other (c := b) (j := 1) (by first | (simp; done) | (simp; omega) | omega) (.int .i64 ((d : Int) + 1))
            have l6 := l5.other (c := b) (j := 1) (by first | (simp; done) | (simp; omega) | omega) (.int .i64 ((d : Int) + 1))
            have gg6 := grown_set gg5 1 (.int .i64 ((d : Int) + 1))
            obtain ⟨c0, c1, f0, f1, lt2⟩ := hc5
            have q0 := k5.at 0 _ rfl
            have q1 := k5.at 1 _ rfl
            have p0 := k5.free 0 _ rfl
            have p1 := k5.free 1 _ rfl
            have r0 := l5.at 0 _ rfl
            have r1 := l5.at 1 _ rfl
            have n1 : ¬ b = w.heap.size := by omega
            have n2 : ¬ b = w4.heap.size := by omega
            have n3 : ¬ w.heap.size = b := by omega
            have n4 : ¬ w4.heap.size = b := by omega
            go_wp2_with fail
            refine bodyPost_ret (v := .agg #[.string a.loc, .string a.dom]) (by simp [results, Tryd.results146, go_sem, *]) rfl ?_
            exact ⟨rfl, ((hc6.other (by first | (simp; done) | (simp; omega) | omega) _).other (by first | (simp; done) | (simp; omega) | omega) _), (by repeat (first | exact World.grownBy.refl _ _ | apply grown_drawN | apply grown_drew | apply grown_set | apply grown_alloc | (refine grown_new ?_ (by first | (simp; done) | (simp; omega) | omega) _ _) | exact gg5))⟩
          · rw [if_neg h62] at hR
            subst hR
            have e1 : (nx s d == 62) = false := by rw [beq_eq_false_iff_ne]; exact h62
            clear h62
            generalize nx s d = x at *
            go_wp2_with fail
            refine (HN2.out _ hcB).mono ?_
            rintro e w5 ⟨rfl, hc5, g5⟩
            have gg5 := grown_trans ggB g5
            have k5 := kB.grown g5 hne
            go_wp2_with fail
            refine (must_no _).mono ?_
            rintro e w5' ⟨rfl, rfl⟩
            go_wp2_with fail
            exact ⟨rfl, rfl, gg5⟩
      · rw [if_neg h2] at hR
        have e1 : (nx s j == 34) = false := by rw [beq_eq_false_iff_ne]; exact h1
        have e2 : (nx s j == 60) = false := by rw [beq_eq_false_iff_ne]; exact h2
        clear h1 h2
        generalize nx s j = x at *
        have HRn := Lib.hid (fun W hc => rrun_calls b s j W hc hj2 (by omega))
        have he := span_le runB s j hj2
        have he1 := span_ge runB s j hj2
        generalize spanEnd runB s j = e1 at *
        have HN2 := Lib.hid (fun W hc => rnext_cur b s e1 W hc he (by omega))
        have hz : (s.extract j e1).size ≤ 1048576 := by rw [ext_size he]; omega
        have HB := fun W hc hm => rbare_calls b s (s.extract j e1) e1 m W hc he hs hz hm hg
        have hbl := fun a d => bare_le (ok := okAddr) (s := s) (e := e1) (loc := s.extract j e1) (a := a) (d := d)
        generalize bareP okAddr s e1 (s.extract j e1) = B at *
        have hem : j < e1 → (s.extract j e1) ≠ ⟨[].toArray⟩ := fun h he' => by
          have := congrArg ByteArray.size he'
          rw [ext_size he] at this
          have h0 : (⟨[].toArray⟩ : ByteArray).size = 0 := rfl
          omega
        have hem2 : ¬ j < e1 → (s.extract j e1) = ⟨[].toArray⟩ := fun h => by
          rw [show e1 = j by omega]; apply ByteArray.ext; simp
        generalize s.extract j e1 = loc at *
        have HB := Lib.hid HB
        by_cases hA : k = 0 ∧ nx s e1 = 64
        · obtain ⟨rfl, h64⟩ := hA
          rw [if_pos ⟨by simp, h64⟩] at hR
          rw [h64] at HN2
          clear hem hem2
          subst hR
          clear h64
          go_wp2_with fail
          refine (HS.out _ hc).mono ?_
          rintro e w1 ⟨rfl, hc1, g1⟩
          have gg1 := grown_trans gg0 g1
          have k1 := k0.grown g1 hne
          go_wp2_with fail
          refine (HN.out _ hc1).mono ?_
          rintro e w2 ⟨rfl, hc2, g2⟩
          have gg2 := grown_trans gg1 g2
          have k2 := k1.grown g2 hne
          go_wp2_with fail
          refine (HRn.out _ hc2).mono ?_
          rintro e w3 ⟨rfl, hc3, g3⟩
          have gg3 := grown_trans gg2 g3
          have k3 := k2.grown g3 hne
          go_wp2_with fail
          refine (HN2.out _ hc3).mono ?_
          rintro e w4 ⟨rfl, hc4, g4⟩
          have gg4 := grown_trans gg3 g4
          have k4 := k3.grown g4 hne
          go_wp2_with fail
          refine (HB.out _ hc4 (hM.out _ gg4)).mono ?_
          intro e w5 h5
          cases B with
          | none =>
            obtain ⟨rfl, g5⟩ : _ ∧ _ := h5
            go_wp2_with fail
            exact ⟨rfl, rfl, grown_trans gg4 g5⟩
          | some x =>
            obtain ⟨a, d⟩ := x
            obtain ⟨rfl, hc5, g5⟩ : _ ∧ _ ∧ _ := h5
            have k5 := k4.grown g5 hne
            have gg5 := grown_trans gg4 g5
            have q0 := k5.at 0 _ rfl
            have q1 := k5.at 1 _ rfl
            have p0 := k5.free 0 _ rfl
            have p1 := k5.free 1 _ rfl
            go_wp2_with fail
            refine bodyPost_ret (v := .agg #[.string a.loc, .string a.dom]) (by simp [results, Tryd.results146, go_sem, *]) rfl ?_
            exact ⟨rfl, ((hc5.other (by first | (simp; done) | (simp; omega) | omega) _).other (by first | (simp; done) | (simp; omega) | omega) _), (by repeat (first | exact World.grownBy.refl _ _ | apply grown_drawN | apply grown_drew | apply grown_set | apply grown_alloc | (refine grown_new ?_ (by first | (simp; done) | (simp; omega) | omega) _ _) | exact gg5))⟩
        · rw [if_neg (fun h => hA ⟨by simpa using h.1, h.2⟩)] at hR
          clear HB hbl
          rcases (Decidable.em (nx s e1 = 64)).elim (fun h => Or.inr (And.intro h fun h0 => hA ⟨h0, h⟩)) Or.inl with h64 | ⟨h64, hk0⟩
          · have e3 : (nx s e1 == 64) = false := by rw [beq_eq_false_iff_ne]; exact h64
            clear h64 hA
            generalize nx s e1 = y at *
            by_cases hje : j < e1
            · rw [if_pos ⟨hje, by omega, he⟩] at hR
              have q1 := lit_no (hem hje)
              have hR := Lib.hid hR
              clear hem hem2
              go_wp2_with fail
              refine (HS.out _ hc).mono ?_
              rintro e w1 ⟨rfl, hc1, g1⟩
              have gg1 := grown_trans gg0 g1
              have k1 := k0.grown g1 hne
              go_wp2_with fail
              refine (HN.out _ hc1).mono ?_
              rintro e w2 ⟨rfl, hc2, g2⟩
              have gg2 := grown_trans gg1 g2
              have k2 := k1.grown g2 hne
              go_wp2_with fail
              refine (HRn.out _ hc2).mono ?_
              rintro e w3 ⟨rfl, hc3, g3⟩
              have gg3 := grown_trans gg2 g3
              have k3 := k2.grown g3 hne
              go_wp2_with fail
              refine (HN2.out _ hc3).mono ?_
              rintro e w4 ⟨rfl, hc4, g4⟩
              have gg4 := grown_trans gg3 g4
              have k4 := k3.grown g4 hne
              go_wp2_with fail
              refine (must_yes _).mono ?_
              rintro e w5' ⟨rfl, rfl⟩
              go_wp2_with fail
              go_roundw
              case rel => exact ⟨k + 1, e1, by omega, he, by go_num, hc4, by simpa using hR.out, k4, gg4⟩
              case measure => rw [hp2, hc4.place]; omega
            · rw [if_neg (fun h => hje h.1)] at hR
              have q1 := lit_yes (hem2 hje)
              subst hR
              clear hem hem2
              go_wp2_with fail
              refine (HS.out _ hc).mono ?_
              rintro e w1 ⟨rfl, hc1, g1⟩
              have gg1 := grown_trans gg0 g1
              have k1 := k0.grown g1 hne
              go_wp2_with fail
              refine (HN.out _ hc1).mono ?_
              rintro e w2 ⟨rfl, hc2, g2⟩
              have gg2 := grown_trans gg1 g2
              have k2 := k1.grown g2 hne
              go_wp2_with fail
              refine (HRn.out _ hc2).mono ?_
              rintro e w3 ⟨rfl, hc3, g3⟩
              have gg3 := grown_trans gg2 g3
              have k3 := k2.grown g3 hne
              go_wp2_with fail
              refine (HN2.out _ hc3).mono ?_
              rintro e w4 ⟨rfl, hc4, g4⟩
              have gg4 := grown_trans gg3 g4
              have k4 := k3.grown g4 hne
              go_wp2_with fail
              refine (must_no _).mono ?_
              rintro e w5' ⟨rfl, rfl⟩
              go_wp2_with fail
              exact ⟨rfl, rfl, gg4⟩
          · rw [h64] at HN2
            have e3 : ((k : Int) == 0) = false := by rw [beq_eq_false_iff_ne]; omega
            clear h64 hA
            by_cases hje : j < e1
            · rw [if_pos ⟨hje, by omega, he⟩] at hR
              have q1 := lit_no (hem hje)
              have hR := Lib.hid hR
              clear hem hem2
              go_wp2_with fail
              refine (HS.out _ hc).mono ?_
              rintro e w1 ⟨rfl, hc1, g1⟩
              have gg1 := grown_trans gg0 g1
              have k1 := k0.grown g1 hne
              go_wp2_with fail
              refine (HN.out _ hc1).mono ?_
              rintro e w2 ⟨rfl, hc2, g2⟩
              have gg2 := grown_trans gg1 g2
              have k2 := k1.grown g2 hne
              go_wp2_with fail
              refine (HRn.out _ hc2).mono ?_
              rintro e w3 ⟨rfl, hc3, g3⟩
              have gg3 := grown_trans gg2 g3
              have k3 := k2.grown g3 hne
              go_wp2_with fail
              refine (HN2.out _ hc3).mono ?_
              rintro e w4 ⟨rfl, hc4, g4⟩
              have gg4 := grown_trans gg3 g4
              have k4 := k3.grown g4 hne
              go_wp2_with fail
              refine (must_yes _).mono ?_
              rintro e w5' ⟨rfl, rfl⟩
              go_wp2_with fail
              go_roundw
              case rel => exact ⟨k + 1, e1, by omega, he, by go_num, hc4, by simpa using hR.out, k4, gg4⟩
              case measure => rw [hp2, hc4.place]; omega
            · rw [if_neg (fun h => hje h.1)] at hR
              have q1 := lit_yes (hem2 hje)
              subst hR
              clear hem hem2
              go_wp2_with fail
              refine (HS.out _ hc).mono ?_
              rintro e w1 ⟨rfl, hc1, g1⟩
              have gg1 := grown_trans gg0 g1
              have k1 := k0.grown g1 hne
              go_wp2_with fail
              refine (HN.out _ hc1).mono ?_
              rintro e w2 ⟨rfl, hc2, g2⟩
              have gg2 := grown_trans gg1 g2
              have k2 := k1.grown g2 hne
              go_wp2_with fail
              refine (HRn.out _ hc2).mono ?_
              rintro e w3 ⟨rfl, hc3, g3⟩
              have gg3 := grown_trans gg2 g3
              have k3 := k2.grown g3 hne
              go_wp2_with fail
              refine (HN2.out _ hc3).mono ?_
              rintro e w4 ⟨rfl, hc4, g4⟩
              have gg4 := grown_trans gg3 g4
              have k4 := k3.grown g4 hne
              go_wp2_with fail
              refine (must_no _).mono ?_
              rintro e w5' ⟨rfl, rfl⟩
              go_wp2_with fail
              exact ⟨rfl, rfl, gg4⟩
end Go.Proofs.YtijdghplfhfpaaaDoor.H
