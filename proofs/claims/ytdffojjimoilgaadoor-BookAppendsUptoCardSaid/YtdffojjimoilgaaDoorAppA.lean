/- Tapes: book.Append. -/
import Derived.Test.YtdffojjimoilgaaDoorEncC
import Derived.Test.YtdffojjimoilgaaDoorTapeB
namespace Go.Proofs.YtdffojjimoilgaaDoor.H
open Go.RowKit Go.Proofs.YtdffojjimoilgaaDoorW.PrintWords Go.Proofs.YtdffojjimoilgaaDoorW.PrintLast Go.Proofs.YtdffojjimoilgaaDoorW.PrintMore Go.Proofs.YtdffojjimoilgaaDoor.U
set_option linter.unusedVariables false
set_option linter.unusedSimpArgs false
theorem encV_len {u : Int} {l : List AEntry} (hs : ∀ x ∈ l, okE x) : (encV u l).2.length ≤ 40000000 := by
  unfold encV
  split
  · rename_i h
    obtain ⟨_, _, h3, _⟩ := batch_good h
    have h1 := encB_len hs
    have h2 : l.length * 3145800 ≤ 10 * 3145800 := Nat.mul_le_mul_right _ h3
    simp only [encB, List.length_append, List.length_cons, List.length_nil]
    omega
  · exact Nat.zero_le _
def frameL (f : List Int) : List Int := [(f.length : Int) / 65536, (f.length : Int) / 256 % 256, (f.length : Int) % 256] ++ f
/-- What is wrong, the bytes, how many are synced. -/
def appV (l : List Int) (s : Int) (u : Int) (es : List AEntry) : Int × List Int × Int :=
  if 0 ≤ s ∧ s ≤ l.length ∧ l.length ≤ 100000 then
    if (encV u es).1 = 0 then
      if 100000 < l.length + 3 + (encV u es).2.length then (5, [], 0) else (0, l ++ frameL (encV u es).2, s)
    else ((encV u es).1, [], 0)
  else (11, [], 0)
def PostTape (w : World) (R : Int × List Int × Int) (e : Ending) (w' : World) : Prop :=
  ∃ v : Value, e = .returned (.tuple #[.agg #[v, .int .i64 R.2.2], .int .i64 R.1]) ∧ (Kd.int .u8).R 5 w' w.heap.size (fun _ => True) v R.2.1 ∧ Below w.heap.size w w'
set_option maxHeartbeats 2000000 in
set_option maxRecDepth 100000 in
theorem append_calls (A : Option Addr) (c : Nat) (l : List Int) (s : Int) (u : Int) (A2 : Option Addr) (c2 : Nat) (es : List AEntry) (m : Int) (w : World) (hr : Kd.C (Kd.int .u8) w A l.length l) (hl : l.length ≤ 1048576) (hr2 : Kd.C kAEntry w A2 es.length es) (hs : ∀ x ∈ es, okE x)
    (hm : w.cell? ⟨0, 0, none⟩ = some (.int .i64 m)) (hg : 0 < w.heap.size) :
    Calls Tryd.prog 21 #[.agg #[.slice A l.length c, .int .i64 s], .agg #[.int .i64 u, .slice A2 es.length c2]] w (PostTape w (appV l s u es)) := by
  have HE := fun A c w hr hm hg => encode_calls u A c es m w hr hs hm hg
  have hW3 : ∃ W3 : World, W3 = ((w.alloc (.cells #[.slice A l.length c, .int .i64 s] 37)).alloc (.cells #[.int .i64 u, .slice A2 es.length c2] 24)).alloc (.cells #[.slice none 0 0, .int .i64 0] 37) := ⟨_, rfl⟩
  obtain ⟨W3, hW3⟩ := hW3
  have ht0 : BlkT W3 w.heap.size 37 [.slice A l.length c, .int .i64 s] := by rw [hW3]; exact ((BlkT.made w _ _).alloc _).alloc _
  have hb0 : BlkT W3 (w.heap.size + 1) 24 [.int .i64 u, .slice A2 es.length c2] := by rw [hW3]; exact (BlkT.made_at _ _ _ (by simp)).alloc _
  have hr0 : BlkT W3 (w.heap.size + 1 + 1) 37 [.slice none 0 0, .int .i64 0] := by rw [hW3]; exact BlkT.made_at _ _ _ (by simp)
  have hB0 : Below w.heap.size w W3 := by rw [hW3]; exact (by repeat (first | exact Below.refl _ _ | apply below_alloc | apply pw_below_drewN | apply below_drew1 | (refine Below.setCell ?_ (by first | (simp; done) | (simp; omega) | omega) _) ))
  have hz0 : W3.heap.size = w.heap.size + 3 := by rw [hW3]; simp
  have hHW := Lib.hid hW3
  clear hW3
  by_cases hok : 0 ≤ s ∧ s ≤ l.length ∧ l.length ≤ 100000
  · rw [appV, if_pos hok]
    generalize hEv : encV u es = R at *
    obtain ⟨f, bs⟩ := R
    simp only
    obtain ⟨o1, o2, o3⟩ := hok
    have hbl : bs.length ≤ 40000000 := by
      have h1 := encV_len (u := u) hs
      rw [hEv] at h1; exact h1
    clear hEv
    have HE := Lib.hid (fun w hr hm hg => HE A2 c2 w hr hm hg)
    by_cases hf : f = 0
    · rw [if_pos hf]
      subst hf
      by_cases hbig : 100000 < l.length + 3 + bs.length
      · rw [if_pos hbig]
        have hbig' : (100000 : Int) < (l.length : Int) + 3 + (bs.length : Int) := by omega
        clear hbig
        go_enter Tryd.func21, Tryd.ntmps21
        go_wp2_with fail
        rw [← hHW.out]
        refine (open_yes A c l s W3 (Kd.C_below hr hB0) o1 o2 o3).mono ?_
        rintro e w1 ⟨v1, rfl, hR1, hb1⟩
        obtain ⟨A1, c1, rfl⟩ := Kd.R_slice hR1
        have hz1 := hb1.size
        obtain ⟨Wa, hWa⟩ : ∃ Wa : World, Wa = w1.alloc (.cells #[.slice A1 l.length c1, .int .i64 s] 37) := ⟨_, rfl⟩
        have hT : BlkT Wa w1.heap.size 37 [.slice A1 l.length c1, .int .i64 s] := by rw [hWa]; exact BlkT.made w1 _ _
        have hBt : BlkT Wa (w.heap.size + 1) 24 [.int .i64 u, .slice A2 es.length c2] := by rw [hWa]; exact (hb0.below hb1 (by omega)).alloc _
        have hRs : BlkT Wa (w.heap.size + 1 + 1) 37 [.slice none 0 0, .int .i64 0] := by rw [hWa]; exact (hr0.below hb1 (by omega)).alloc _
        have hB1 : Below w.heap.size w Wa := by rw [hWa]; exact below_alloc' (hB0.trans (hb1.mono (by omega))) (by omega) _
        have hR1a : (Kd.int .u8).R 5 Wa W3.heap.size (fun _ => True) (.slice A1 l.length c1) l := by rw [hWa]; exact Kd.R_below hR1 (by repeat (first | exact Below.refl _ _ | apply below_alloc | apply pw_below_drewN | apply below_drew1 | (refine Below.setCell ?_ (by first | (simp; done) | (simp; omega) | omega) _) ))
        have hza : Wa.heap.size = w1.heap.size + 1 := by rw [hWa]; simp
        have hov := fun b hb => ((Kd.R_bound hR1a).1 b hb).2.2.1
        have hWa := Lib.hid hWa
        have h10 := (hb0.below hb1 (by omega)).1.at 0 _ rfl
        have h11 := (hb0.below hb1 (by omega)).1.at 1 _ rfl
        have hzs : w.heap.size + 1 < w1.heap.size := by omega
        clear hr0 hb0 ht0 hB0 hR1 hb1
        go_wp2_with fail
        rw [← hWa.out]
        refine (HE.out _ (Kd.C_below hr2 hB1) (cell_below hB1 hm hg) (by omega)).mono ?_
        intro e w2 hw2
        obtain ⟨v2, rfl, hR2, hb2⟩ := hw2
        simp only at hR2 ⊢
        obtain ⟨A3, c3, rfl⟩ := Kd.R_slice hR2
        have hz2 := hb2.size
        have hT2 := hT.below hb2 (by omega)
        have hRs2 := hRs.below hb2 (by omega)
        have hR1b := Kd.R_below hR1a hb2
        have hB2 := hB1.trans (hb2.mono (by omega))
        have t0 := hT2.1.at 0 _ rfl
        have t1 := hT2.1.at 1 _ rfl
        clear hT hBt hRs hR1a hB1 h10 h11
        have z0 := (hRs2.1).at 0 _ rfl
        have z1 := (hRs2.1).at 1 _ rfl
        have y0 := (hRs2.1).free 0 _ rfl
        have y1 := (hRs2.1).free 1 _ rfl
        go_wp2_with fail
        refine bodyPost_ret (v := .tuple #[.agg #[.slice none 0 0, .int .i64 0], .int .i64 5]) (by simp [results, Tryd.results21, go_sem, *]) rfl ?_
        exact ⟨_, rfl, Kd.R_nil _ _ _ _ _, (by repeat (first | exact Below.refl _ _ | apply below_alloc | apply pw_below_drewN | apply below_drew1 | (refine Below.setCell ?_ (by first | (simp; done) | (simp; omega) | omega) _) | exact hB2))⟩
      · rw [if_neg hbig]
        have hbig' : ¬ (100000 : Int) < (l.length : Int) + 3 + (bs.length : Int) := by omega
        have hbs : bs.length ≤ 100000 := by omega
        have hbig := Lib.hid hbig
        go_enter Tryd.func21, Tryd.ntmps21
        go_wp2_with fail
        rw [← hHW.out]
        refine (open_yes A c l s W3 (Kd.C_below hr hB0) o1 o2 o3).mono ?_
        rintro e w1 ⟨v1, rfl, hR1, hb1⟩
        obtain ⟨A1, c1, rfl⟩ := Kd.R_slice hR1
        have hz1 := hb1.size
        obtain ⟨Wa, hWa⟩ : ∃ Wa : World, Wa = w1.alloc (.cells #[.slice A1 l.length c1, .int .i64 s] 37) := ⟨_, rfl⟩
        have hT : BlkT Wa w1.heap.size 37 [.slice A1 l.length c1, .int .i64 s] := by rw [hWa]; exact BlkT.made w1 _ _
        have hBt : BlkT Wa (w.heap.size + 1) 24 [.int .i64 u, .slice A2 es.length c2] := by rw [hWa]; exact (hb0.below hb1 (by omega)).alloc _
        have hRs : BlkT Wa (w.heap.size + 1 + 1) 37 [.slice none 0 0, .int .i64 0] := by rw [hWa]; exact (hr0.below hb1 (by omega)).alloc _
        have hB1 : Below w.heap.size w Wa := by rw [hWa]; exact below_alloc' (hB0.trans (hb1.mono (by omega))) (by omega) _
        have hR1a : (Kd.int .u8).R 5 Wa W3.heap.size (fun _ => True) (.slice A1 l.length c1) l := by rw [hWa]; exact Kd.R_below hR1 (by repeat (first | exact Below.refl _ _ | apply below_alloc | apply pw_below_drewN | apply below_drew1 | (refine Below.setCell ?_ (by first | (simp; done) | (simp; omega) | omega) _) ))
        have hza : Wa.heap.size = w1.heap.size + 1 := by rw [hWa]; simp
        have hov := fun b hb => ((Kd.R_bound hR1a).1 b hb).2.2.1
        have hWa := Lib.hid hWa
        have h10 := (hb0.below hb1 (by omega)).1.at 0 _ rfl
        have h11 := (hb0.below hb1 (by omega)).1.at 1 _ rfl
        have hzs : w.heap.size + 1 < w1.heap.size := by omega
        clear hr0 hb0 ht0 hB0 hR1 hb1
        go_wp2_with fail
        rw [← hWa.out]
        refine (HE.out _ (Kd.C_below hr2 hB1) (cell_below hB1 hm hg) (by omega)).mono ?_
        intro e w2 hw2
        obtain ⟨v2, rfl, hR2, hb2⟩ := hw2
        simp only at hR2 ⊢
        obtain ⟨A3, c3, rfl⟩ := Kd.R_slice hR2
        have hz2 := hb2.size
        have hT2 := hT.below hb2 (by omega)
        have hRs2 := hRs.below hb2 (by omega)
        have hR1b := Kd.R_below hR1a hb2
        have hB2 := hB1.trans (hb2.mono (by omega))
        have t0 := hT2.1.at 0 _ rfl
        have t1 := hT2.1.at 1 _ rfl
        clear hT hBt hRs hR1a hB1 h10 h11
        go_wp2_with fail
        refine (wide3_calls (bs.length : Int) (by omega) (by omega) W3.heap.size _ l w2 hR1b (by omega) (by omega)).mono ?_
        rintro e w3 ⟨v3, rfl, hR3, hb3, hg3, ho3⟩
        have hRf := C_ofR (R_apart hR2 hg3 hov)
        have hT3 := hT2.row hR1b hg3 (by decide)
        have hRs3 := hRs2.row hR1b hg3 (by decide)
        have hz3 := hb3.size
        have hB3 := hB2.trans (hb3.mono (by omega))
        have hfin : l ++ [(bs.length : Int) / 65536, (bs.length : Int) / 256 % 256, (bs.length : Int) % 256] ++ bs = l ++ frameL bs := by rw [frameL, List.append_assoc]
        have hfin := Lib.hid hfin
        have n1 : ¬ w1.heap.size = w.heap.size + 1 + 1 := by omega
        have n2 : ¬ w.heap.size + 1 + 1 = w1.heap.size := by omega
        clear hT2 hRs2 hR1b hR2 hB2 hg3 ho3 t0 t1
        go_wp2_with (at_builtin; refine rows_list rowU8 W3.heap.size rfl _ _ rfl _ _ bs A3 c3 (by first | rfl | (simp [Act.eval]; done)) (by first | rfl | (simp [Act.eval]; done)) hR3 hRf (by omega) (by simp; omega) ?_; intro v5 w5 hR5 hb5 hg5; rw [hfin.out] at hR5; obtain ⟨A5, c5, rfl⟩ := Kd.R_slice hR5; have hT5 := hT3.row hR3 hg5 (by decide); have hRs5 := hRs3.row hR3 hg5 (by decide); have t0 := hT5.1.at 0 _ rfl; have t1 := hT5.1.at 1 _ rfl; have f0 := hT5.1.free 0 _ rfl; have z0 := hRs5.1.at 0 _ rfl; have z1 := hRs5.1.at 1 _ rfl; have y0 := hRs5.1.free 0 _ rfl; have y1 := hRs5.1.free 1 _ rfl; have hB5 := hB3.trans (hb5.mono (by omega)); generalize l ++ frameL bs = fin at *)
        refine bodyPost_ret (v := .tuple #[.agg #[.slice A5 fin.length c5, .int .i64 s], .int .i64 0]) (by simp [results, Tryd.results21, go_sem, *]) rfl ?_
        exact ⟨_, rfl, Kd.R_lower (R_elder (p := ⟨w.heap.size + 1 + 1, 1, none⟩) (R_elder (p := ⟨w.heap.size + 1 + 1, 0, none⟩) (R_setT hR5 hT5 (by decide) _) (show w.heap.size + 1 + 1 < W3.heap.size by omega) _) (show w.heap.size + 1 + 1 < W3.heap.size by omega) _) (by omega), (by repeat (first | exact Below.refl _ _ | apply below_alloc | apply pw_below_drewN | apply below_drew1 | (refine Below.setCell ?_ (by first | (simp; done) | (simp; omega) | omega) _) | exact hB5))⟩
    · rw [if_neg hf]
      have hfb : (f != 0) = true := by simp [hf]
      clear hf
      go_enter Tryd.func21, Tryd.ntmps21
      go_wp2_with fail
      rw [← hHW.out]
      refine (open_yes A c l s W3 (Kd.C_below hr hB0) o1 o2 o3).mono ?_
      rintro e w1 ⟨v1, rfl, hR1, hb1⟩
      obtain ⟨A1, c1, rfl⟩ := Kd.R_slice hR1
      have hz1 := hb1.size
      obtain ⟨Wa, hWa⟩ : ∃ Wa : World, Wa = w1.alloc (.cells #[.slice A1 l.length c1, .int .i64 s] 37) := ⟨_, rfl⟩
      have hT : BlkT Wa w1.heap.size 37 [.slice A1 l.length c1, .int .i64 s] := by rw [hWa]; exact BlkT.made w1 _ _
      have hBt : BlkT Wa (w.heap.size + 1) 24 [.int .i64 u, .slice A2 es.length c2] := by rw [hWa]; exact (hb0.below hb1 (by omega)).alloc _
      have hRs : BlkT Wa (w.heap.size + 1 + 1) 37 [.slice none 0 0, .int .i64 0] := by rw [hWa]; exact (hr0.below hb1 (by omega)).alloc _
      have hB1 : Below w.heap.size w Wa := by rw [hWa]; exact below_alloc' (hB0.trans (hb1.mono (by omega))) (by omega) _
      have hR1a : (Kd.int .u8).R 5 Wa W3.heap.size (fun _ => True) (.slice A1 l.length c1) l := by rw [hWa]; exact Kd.R_below hR1 (by repeat (first | exact Below.refl _ _ | apply below_alloc | apply pw_below_drewN | apply below_drew1 | (refine Below.setCell ?_ (by first | (simp; done) | (simp; omega) | omega) _) ))
      have hza : Wa.heap.size = w1.heap.size + 1 := by rw [hWa]; simp
      have hov := fun b hb => ((Kd.R_bound hR1a).1 b hb).2.2.1
      have hWa := Lib.hid hWa
      have h10 := (hb0.below hb1 (by omega)).1.at 0 _ rfl
      have h11 := (hb0.below hb1 (by omega)).1.at 1 _ rfl
      have hzs : w.heap.size + 1 < w1.heap.size := by omega
      clear hr0 hb0 ht0 hB0 hR1 hb1
      go_wp2_with fail
      rw [← hWa.out]
      refine (HE.out _ (Kd.C_below hr2 hB1) (cell_below hB1 hm hg) (by omega)).mono ?_
      intro e w2 hw2
      obtain ⟨v2, rfl, hR2, hb2⟩ := hw2
      simp only at hR2 ⊢
      obtain ⟨A3, c3, rfl⟩ := Kd.R_slice hR2
      have hz2 := hb2.size
      have hT2 := hT.below hb2 (by omega)
      have hRs2 := hRs.below hb2 (by omega)
      have hR1b := Kd.R_below hR1a hb2
      have hB2 := hB1.trans (hb2.mono (by omega))
      have t0 := hT2.1.at 0 _ rfl
      have t1 := hT2.1.at 1 _ rfl
      clear hT hBt hRs hR1a hB1 h10 h11
      have z0 := (hRs2.1).at 0 _ rfl
      have z1 := (hRs2.1).at 1 _ rfl
      have y0 := (hRs2.1).free 0 _ rfl
      have y1 := (hRs2.1).free 1 _ rfl
      go_wp2_with fail
      refine bodyPost_ret (v := .tuple #[.agg #[.slice none 0 0, .int .i64 0], .int .i64 f]) (by simp [results, Tryd.results21, go_sem, *]) rfl ?_
      exact ⟨_, rfl, Kd.R_nil _ _ _ _ _, (by repeat (first | exact Below.refl _ _ | apply below_alloc | apply pw_below_drewN | apply below_drew1 | (refine Below.setCell ?_ (by first | (simp; done) | (simp; omega) | omega) _) | exact hB2))⟩
  · rw [appV, if_neg hok]
    go_enter Tryd.func21, Tryd.ntmps21
    go_wp2_with fail
    rw [← hHW.out]
    refine (open_no A c l s W3 hok (by omega)).mono ?_
    rintro e w1 ⟨rfl, hb1⟩
    have hRs := hr0.below hb1 (by omega)
    have hB1 := hB0.trans (hb1.mono (by omega))
    have z0 := (hRs.1).at 0 _ rfl
    have z1 := (hRs.1).at 1 _ rfl
    have y0 := (hRs.1).free 0 _ rfl
    have y1 := (hRs.1).free 1 _ rfl
    have hz1 := hb1.size
    have hz4 : w.heap.size + 1 + 1 < w1.heap.size := by omega
    go_wp2_with fail
    refine bodyPost_ret (v := .tuple #[.agg #[.slice none 0 0, .int .i64 0], .int .i64 11]) (by simp [results, Tryd.results21, go_sem, *]) rfl ?_
    exact ⟨_, rfl, Kd.R_nil _ _ _ _ _, (by repeat (first | exact Below.refl _ _ | apply below_alloc | apply pw_below_drewN | apply below_drew1 | (refine Below.setCell ?_ (by first | (simp; done) | (simp; omega) | omega) _) | exact hB1))⟩
end Go.Proofs.YtdffojjimoilgaaDoor.H
