/- Tapes: the reference's TapeAppended. -/
import Derived.Test.YtdffojjimoilgaaDoorAppA
import Derived.Deep.RegionHeld3
namespace Go.Proofs.YtdffojjimoilgaaDoor.H
open Go.RowKit Go.Proofs.YtdffojjimoilgaaDoorW.PrintWords Go.Proofs.YtdffojjimoilgaaDoorW.PrintLast Go.Proofs.YtdffojjimoilgaaDoorW.PrintMore Go.Proofs.YtdffojjimoilgaaDoor.U
set_option linter.unusedVariables false
set_option linter.unusedSimpArgs false
set_option maxHeartbeats 2000000 in
set_option maxRecDepth 100000 in
theorem tapeAppended_calls (A : Option Addr) (c : Nat) (l : List Int) (s : Int) (u : Int) (A2 : Option Addr) (c2 : Nat) (es : List AEntry) (w : World) (hr : Kd.C (Kd.int .u8) w A l.length l) (hl : l.length ≤ 1048576) (hr2 : Kd.C kAEntry w A2 es.length es) (hs : ∀ x ∈ es, okE x) :
    Calls Tryd.prog 22 #[.agg #[.slice A l.length c, .int .i64 s], .agg #[.int .i64 u, .slice A2 es.length c2]] w (PostTape w (appV l s u es)) := by
  have HE := fun w hr => batchBytes_calls u A2 c2 es w hr hs
  have hW3 : ∃ W3 : World, W3 = ((w.alloc (.cells #[.slice A l.length c, .int .i64 s] 37)).alloc (.cells #[.int .i64 u, .slice A2 es.length c2] 24)).alloc (.cells #[.slice none 0 0, .int .i64 0] 37) := ⟨_, rfl⟩
  obtain ⟨W3, hW3⟩ := hW3
  have ht0 : BlkT W3 w.heap.size 37 [.slice A l.length c, .int .i64 s] := by rw [hW3]; exact ((BlkT.made w _ _).alloc _).alloc _
  have hb0 : BlkT W3 (w.heap.size + 1) 24 [.int .i64 u, .slice A2 es.length c2] := by rw [hW3]; exact (BlkT.made_at _ _ _ (by simp)).alloc _
  have hr0 : BlkT W3 (w.heap.size + 1 + 1) 37 [.slice none 0 0, .int .i64 0] := by rw [hW3]; exact BlkT.made_at _ _ _ (by simp)
  have hB0 : Below w.heap.size w W3 := by rw [hW3]; exact (by repeat (first | exact Below.refl _ _ | apply below_alloc | apply pw_below_drewN | apply below_drew1 | (refine Below.setCell ?_ (by first | (simp; done) | (simp; omega) | omega) _) ))
  have hz0 : W3.heap.size = w.heap.size + 3 := by rw [hW3]; simp
  have hHW := Lib.hid hW3
  clear hW3
  by_cases hok : 0 ≤ s ∧ s ≤ l.length ∧ l.length ≤ 100000
  · rw [appV, if_pos hok]
    generalize hEv : encV u es = R at *
    obtain ⟨f, bs⟩ := R
    simp only
    obtain ⟨o1, o2, o3⟩ := hok
    have hbl : bs.length ≤ 40000000 := by
      have h1 := encV_len (u := u) hs
      rw [hEv] at h1; exact h1
    clear hEv
    have HE := Lib.hid HE
    by_cases hf : f = 0
    · rw [if_pos hf]
      subst hf
      by_cases hbig : 100000 < l.length + 3 + bs.length
      · rw [if_pos hbig]
        go_enter Tryd.func22, Tryd.ntmps22
        go_wp2_with fail
        rw [← hHW.out]
        refine (tapeMay_yes A c l s W3 o1 o2 o3).mono ?_
        rintro e w1 ⟨rfl, hb1⟩
        have hz1 := hb1.size
        have ht1 := ht0.below hb1 (by omega)
        have hBt := hb0.below hb1 (by omega)
        have hRs := hr0.below hb1 (by omega)
        have hB1 := hB0.trans (hb1.mono (by omega))
        have h10 := hBt.1.at 0 _ rfl
        have h11 := hBt.1.at 1 _ rfl
        clear hr0 hb0 ht0 hB0 hb1
        go_wp2_with fail
        refine (HE.out _ (Kd.C_below hr2 hB1)).mono ?_
        intro e w2 hw2
        obtain ⟨v2, rfl, hR2, hb2⟩ := hw2
        simp only at hR2 ⊢
        obtain ⟨A3, c3, rfl⟩ := Kd.R_slice hR2
        have hC2 := C_ofR hR2
        have hz2 := hb2.size
        have ht2 := ht1.below hb2 (by omega)
        have hRs2 := hRs.below hb2 (by omega)
        have hB2 := hB1.trans (hb2.mono (by omega))
        clear ht1 hBt hRs hB1 h10 h11 hR2
        have hL : (Kd.int .u8).C (w2.alloc (.cells #[.int .u8 ((bs.length : Int) / 65536 % 256), .int .u8 ((bs.length : Int) / 256 % 256), .int .u8 ((bs.length : Int) % 256)] 5)) (some ⟨w2.heap.size, 0, none⟩) 3 [(bs.length : Int) / 65536 % 256, (bs.length : Int) / 256 % 256, (bs.length : Int) % 256] := C_ofR (R_lit [(bs.length : Int) / 65536 % 256, (bs.length : Int) / 256 % 256, (bs.length : Int) % 256] w2 0 5 (Nat.zero_le _) (by simp))
        have hCa : (Kd.int .u8).C (w2.alloc (.cells #[.int .u8 ((bs.length : Int) / 65536 % 256), .int .u8 ((bs.length : Int) / 256 % 256), .int .u8 ((bs.length : Int) % 256)] 5)) A3 bs.length bs := Kd.C_below hC2 (by repeat (first | exact Below.refl _ _ | apply below_alloc | apply pw_below_drewN | apply below_drew1 | (refine Below.setCell ?_ (by first | (simp; done) | (simp; omega) | omega) _) ))
        have hBa : Below w.heap.size w (w2.alloc (.cells #[.int .u8 ((bs.length : Int) / 65536 % 256), .int .u8 ((bs.length : Int) / 256 % 256), .int .u8 ((bs.length : Int) % 256)] 5)) := (by repeat (first | exact Below.refl _ _ | apply below_alloc | apply pw_below_drewN | apply below_drew1 | (refine Below.setCell ?_ (by first | (simp; done) | (simp; omega) | omega) _) | exact hB2))
        have hta := ht2.alloc (.cells #[.int .u8 ((bs.length : Int) / 65536 % 256), .int .u8 ((bs.length : Int) / 256 % 256), .int .u8 ((bs.length : Int) % 256)] 5)
        have hRa := hRs2.alloc (.cells #[.int .u8 ((bs.length : Int) / 65536 % 256), .int .u8 ((bs.length : Int) / 256 % 256), .int .u8 ((bs.length : Int) % 256)] 5)
        have hza : (w2.alloc (.cells #[.int .u8 ((bs.length : Int) / 65536 % 256), .int .u8 ((bs.length : Int) / 256 % 256), .int .u8 ((bs.length : Int) % 256)] 5)).heap.size = w2.heap.size + 1 := by simp
        go_wp2_with fail
        refine (joined_calls _ _ [(bs.length : Int) / 65536 % 256, (bs.length : Int) / 256 % 256, (bs.length : Int) % 256] A3 c3 bs _ hL hCa (by simp; omega)).mono ?_
        rintro e w3 ⟨v3, rfl, hR3, hb3⟩
        obtain ⟨A4, c4, rfl⟩ := Kd.R_slice hR3
        have hC3 := C_ofR hR3
        have hz3 := hb3.size
        have ht3 := hta.below hb3 (by omega)
        have hRs3 := hRa.below hb3 (by omega)
        have hB3 := hBa.trans (hb3.mono (by omega))
        have t0 := ht3.1.at 0 _ rfl
        have t1 := ht3.1.at 1 _ rfl
        have hn3 : ([(bs.length : Int) / 65536 % 256, (bs.length : Int) / 256 % 256, (bs.length : Int) % 256] ++ bs).length = bs.length + 3 := by simp
        generalize hfr : [(bs.length : Int) / 65536 % 256, (bs.length : Int) / 256 % 256, (bs.length : Int) % 256] ++ bs = fr at *
        replace hfr := Lib.hid hfr
        have hfl : fr.length ≤ 40000003 := by omega
        replace hn3 := Lib.hid hn3
        clear hL hCa hBa hta hRa hR3 hC2 ht2 hRs2 hB2
        have hbig' : (100000 : Int) < (l.length : Int) + (fr.length : Int) := by have := hn3.out; omega
        have hdec : decide ((100000 : Int) < (l.length : Int) + (fr.length : Int)) = true := decide_eq_true hbig'
        clear hbig
        have z0 := (hRs3.1).at 0 _ rfl
        have z1 := (hRs3.1).at 1 _ rfl
        have y0 := (hRs3.1).free 0 _ rfl
        have y1 := (hRs3.1).free 1 _ rfl
        have hwr : IntKind.i64.wrap ((l.length : Int) + (fr.length : Int)) = (l.length : Int) + (fr.length : Int) := by rw [IntKind.wrap_i64]; omega
        have HZ := Lib.hid (And.intro hfl (And.intro hz3 (And.intro hz2 (And.intro hz1 (And.intro hz0 (And.intro hl (And.intro hza o3)))))))
        clear hfl hz3 hz2 hz1 hz0 hl hza o3 hbl
        clear hbig'
        go_wp2_with fail
        refine bodyPost_ret (v := .tuple #[.agg #[.slice none 0 0, .int .i64 0], .int .i64 5]) (by simp [results, Tryd.results22, go_sem, *]) rfl ?_
        exact ⟨_, rfl, Kd.R_nil _ _ _ _ _, (by repeat (first | exact Below.refl _ _ | apply below_alloc | apply pw_below_drewN | apply below_drew1 | (refine Below.setCell ?_ (by first | (simp; done) | (simp; omega) | omega) _) | exact hB3))⟩
      · rw [if_neg hbig]
        have hbs : bs.length ≤ 100000 := by omega
        have hbig := Lib.hid hbig
        go_enter Tryd.func22, Tryd.ntmps22
        go_wp2_with fail
        rw [← hHW.out]
        refine (tapeMay_yes A c l s W3 o1 o2 o3).mono ?_
        rintro e w1 ⟨rfl, hb1⟩
        have hz1 := hb1.size
        have ht1 := ht0.below hb1 (by omega)
        have hBt := hb0.below hb1 (by omega)
        have hRs := hr0.below hb1 (by omega)
        have hB1 := hB0.trans (hb1.mono (by omega))
        have h10 := hBt.1.at 0 _ rfl
        have h11 := hBt.1.at 1 _ rfl
        clear hr0 hb0 ht0 hB0 hb1
        go_wp2_with fail
        refine (HE.out _ (Kd.C_below hr2 hB1)).mono ?_
        intro e w2 hw2
        obtain ⟨v2, rfl, hR2, hb2⟩ := hw2
        simp only at hR2 ⊢
        obtain ⟨A3, c3, rfl⟩ := Kd.R_slice hR2
        have hC2 := C_ofR hR2
        have hz2 := hb2.size
        have ht2 := ht1.below hb2 (by omega)
        have hRs2 := hRs.below hb2 (by omega)
        have hB2 := hB1.trans (hb2.mono (by omega))
        clear ht1 hBt hRs hB1 h10 h11 hR2
        have hL : (Kd.int .u8).C (w2.alloc (.cells #[.int .u8 ((bs.length : Int) / 65536), .int .u8 ((bs.length : Int) / 256 % 256), .int .u8 ((bs.length : Int) % 256)] 5)) (some ⟨w2.heap.size, 0, none⟩) 3 [(bs.length : Int) / 65536, (bs.length : Int) / 256 % 256, (bs.length : Int) % 256] := C_ofR (R_lit [(bs.length : Int) / 65536, (bs.length : Int) / 256 % 256, (bs.length : Int) % 256] w2 0 5 (Nat.zero_le _) (by simp))
        have hCa : (Kd.int .u8).C (w2.alloc (.cells #[.int .u8 ((bs.length : Int) / 65536), .int .u8 ((bs.length : Int) / 256 % 256), .int .u8 ((bs.length : Int) % 256)] 5)) A3 bs.length bs := Kd.C_below hC2 (by repeat (first | exact Below.refl _ _ | apply below_alloc | apply pw_below_drewN | apply below_drew1 | (refine Below.setCell ?_ (by first | (simp; done) | (simp; omega) | omega) _) ))
        have hBa : Below w.heap.size w (w2.alloc (.cells #[.int .u8 ((bs.length : Int) / 65536), .int .u8 ((bs.length : Int) / 256 % 256), .int .u8 ((bs.length : Int) % 256)] 5)) := (by repeat (first | exact Below.refl _ _ | apply below_alloc | apply pw_below_drewN | apply below_drew1 | (refine Below.setCell ?_ (by first | (simp; done) | (simp; omega) | omega) _) | exact hB2))
        have hta := ht2.alloc (.cells #[.int .u8 ((bs.length : Int) / 65536), .int .u8 ((bs.length : Int) / 256 % 256), .int .u8 ((bs.length : Int) % 256)] 5)
        have hRa := hRs2.alloc (.cells #[.int .u8 ((bs.length : Int) / 65536), .int .u8 ((bs.length : Int) / 256 % 256), .int .u8 ((bs.length : Int) % 256)] 5)
        have hza : (w2.alloc (.cells #[.int .u8 ((bs.length : Int) / 65536), .int .u8 ((bs.length : Int) / 256 % 256), .int .u8 ((bs.length : Int) % 256)] 5)).heap.size = w2.heap.size + 1 := by simp
        go_wp2_with fail
        refine (joined_calls _ _ [(bs.length : Int) / 65536, (bs.length : Int) / 256 % 256, (bs.length : Int) % 256] A3 c3 bs _ hL hCa (by simp; omega)).mono ?_
        rintro e w3 ⟨v3, rfl, hR3, hb3⟩
        obtain ⟨A4, c4, rfl⟩ := Kd.R_slice hR3
        have hC3 := C_ofR hR3
        have hz3 := hb3.size
        have ht3 := hta.below hb3 (by omega)
        have hRs3 := hRa.below hb3 (by omega)
        have hB3 := hBa.trans (hb3.mono (by omega))
        have t0 := ht3.1.at 0 _ rfl
        have t1 := ht3.1.at 1 _ rfl
        have hn3 : ([(bs.length : Int) / 65536, (bs.length : Int) / 256 % 256, (bs.length : Int) % 256] ++ bs).length = bs.length + 3 := by simp
        generalize hfr : [(bs.length : Int) / 65536, (bs.length : Int) / 256 % 256, (bs.length : Int) % 256] ++ bs = fr at *
        replace hfr := Lib.hid hfr
        have hfl : fr.length ≤ 40000003 := by omega
        replace hn3 := Lib.hid hn3
        clear hL hCa hBa hta hRa hR3 hC2 ht2 hRs2 hB2
        have hbig' : ¬ (100000 : Int) < (l.length : Int) + (fr.length : Int) := by have := hbig.out; have := hn3.out; omega
        have hdec : decide ((100000 : Int) < (l.length : Int) + (fr.length : Int)) = false := decide_eq_false hbig'
        have hwr : IntKind.i64.wrap ((l.length : Int) + (fr.length : Int)) = (l.length : Int) + (fr.length : Int) := by rw [IntKind.wrap_i64]; omega
        have HZ := Lib.hid (And.intro hfl (And.intro hz3 (And.intro hz2 (And.intro hz1 (And.intro hz0 (And.intro hl (And.intro hza o3)))))))
        clear hfl hz3 hz2 hz1 hz0 hl hza o3 hbl
        have hZ2 := Lib.hid (And.intro hbs hbig')
        clear hbs hbig'
        have t0d := cell_drew' t0
        have t1d := cell_drew' t1
        have hRsd := hRs3.below (show Below w3.heap.size w3 w3.drew from (by repeat (first | exact Below.refl _ _ | apply below_alloc | apply pw_below_drewN | apply below_drew1 | (refine Below.setCell ?_ (by first | (simp; done) | (simp; omega) | omega) _) ))) hRs3.1.1
        have htd := ht3.below (show Below w3.heap.size w3 w3.drew from (by repeat (first | exact Below.refl _ _ | apply below_alloc | apply pw_below_drewN | apply below_drew1 | (refine Below.setCell ?_ (by first | (simp; done) | (simp; omega) | omega) _) ))) ht3.1.1
        have hC3d := Kd.C_below hC3 (show Below w3.heap.size w3 w3.drew from (by repeat (first | exact Below.refl _ _ | apply below_alloc | apply pw_below_drewN | apply below_drew1 | (refine Below.setCell ?_ (by first | (simp; done) | (simp; omega) | omega) _) )))
        have hBd : Below w.heap.size w w3.drew := (by repeat (first | exact Below.refl _ _ | apply below_alloc | apply pw_below_drewN | apply below_drew1 | (refine Below.setCell ?_ (by first | (simp; done) | (simp; omega) | omega) _) | exact hB3))
        have hzd : w3.drew.heap.size = w3.heap.size := by simp
        have hzw := hRs3.1.1
        have nn : ¬ w.heap.size = w.heap.size + 1 + 1 := by omega
        have HJ := Lib.hid (joined_calls A c l A4 c4 fr w3.drew (Kd.C_below hr hBd) hC3d (by have := HZ.out; omega))
        have hfin : ∃ fin, l ++ frameL bs = fin ∧ l ++ fr = fin := ⟨_, rfl, by rw [← hfr.out]; rfl⟩
        obtain ⟨fin, hf1, hf2⟩ := hfin
        rw [hf2] at HJ
        replace hf1 := Lib.hid hf1
        clear hf2
        go_wp2_with fail
        go_region_held3 (fun w' => w'.cell? ⟨w.heap.size, 0, none⟩ = some (.slice A l.length c) ∧ w'.cell? ⟨w.heap.size, 1, none⟩ = some (.int .i64 s))
          (first | exact ⟨t0d, t1d⟩ | exact ⟨k0, k1⟩ | exact ⟨cell_other' (cell_other' k0 nn _) nn _, cell_other' (cell_other' k1 nn _) nn _⟩ | go_keep)
          ((go_at_call 44; refine HJ.out.mono ?_; rintro e w5 ⟨v5, rfl, hR5, hb5⟩; obtain ⟨A5, c5, rfl⟩ := Kd.R_slice hR5; have hRs5 := hRsd.below hb5 (by omega); have k0 := (hb5.cell (p := ⟨w.heap.size, 0, none⟩) (show w.heap.size < w3.drew.heap.size by omega)).trans t0d; have k1 := (hb5.cell (p := ⟨w.heap.size, 1, none⟩) (show w.heap.size < w3.drew.heap.size by omega)).trans t1d; have z0 := hRs5.1.at 0 _ rfl; have z1 := hRs5.1.at 1 _ rfl; have y0 := hRs5.1.free 0 _ rfl; have y1 := hRs5.1.free 1 _ rfl))
        go_wp2_with fail
        refine bodyPost_ret (v := .tuple #[.agg #[.slice A5 fin.length c5, .int .i64 s], .int .i64 0]) (by simp [results, Tryd.results22, go_sem, *]) rfl ?_
        have hf1 := hf1.out
        refine ⟨_, rfl, ?_, (by repeat (first | exact Below.refl _ _ | apply below_alloc | apply pw_below_drewN | apply below_drew1 | (refine Below.setCell ?_ (by first | (simp; done) | (simp; omega) | omega) _) | exact hBd.trans (hb5.mono (by omega))))⟩
        show (Kd.int .u8).R _ _ _ _ _ (l ++ frameL bs)
        rw [hf1]
        exact Kd.R_lower (R_elder (p := ⟨w.heap.size + 1 + 1, 1, none⟩) (R_elder (p := ⟨w.heap.size + 1 + 1, 0, none⟩) hR5 (show w.heap.size + 1 + 1 < w3.drew.heap.size by omega) _) (show w.heap.size + 1 + 1 < w3.drew.heap.size by omega) _) (by omega)
    · rw [if_neg hf]
      have hfb : (f != 0) = true := by simp [hf]
      clear hf
      go_enter Tryd.func22, Tryd.ntmps22
      go_wp2_with fail
      rw [← hHW.out]
      refine (tapeMay_yes A c l s W3 o1 o2 o3).mono ?_
      rintro e w1 ⟨rfl, hb1⟩
      have hz1 := hb1.size
      have ht1 := ht0.below hb1 (by omega)
      have hBt := hb0.below hb1 (by omega)
      have hRs := hr0.below hb1 (by omega)
      have hB1 := hB0.trans (hb1.mono (by omega))
      have h10 := hBt.1.at 0 _ rfl
      have h11 := hBt.1.at 1 _ rfl
      clear hr0 hb0 ht0 hB0 hb1
      go_wp2_with fail
      refine (HE.out _ (Kd.C_below hr2 hB1)).mono ?_
      intro e w2 hw2
      obtain ⟨v2, rfl, hR2, hb2⟩ := hw2
      simp only at hR2 ⊢
      obtain ⟨A3, c3, rfl⟩ := Kd.R_slice hR2
      have hC2 := C_ofR hR2
      have hz2 := hb2.size
      have ht2 := ht1.below hb2 (by omega)
      have hRs2 := hRs.below hb2 (by omega)
      have hB2 := hB1.trans (hb2.mono (by omega))
      clear ht1 hBt hRs hB1 h10 h11 hR2
      have z0 := (hRs2.1).at 0 _ rfl
      have z1 := (hRs2.1).at 1 _ rfl
      have y0 := (hRs2.1).free 0 _ rfl
      have y1 := (hRs2.1).free 1 _ rfl
      go_wp2_with fail
      refine bodyPost_ret (v := .tuple #[.agg #[.slice none 0 0, .int .i64 0], .int .i64 f]) (by simp [results, Tryd.results22, go_sem, *]) rfl ?_
      exact ⟨_, rfl, Kd.R_nil _ _ _ _ _, (by repeat (first | exact Below.refl _ _ | apply below_alloc | apply pw_below_drewN | apply below_drew1 | (refine Below.setCell ?_ (by first | (simp; done) | (simp; omega) | omega) _) | exact hB2))⟩
  · rw [appV, if_neg hok]
    go_enter Tryd.func22, Tryd.ntmps22
    go_wp2_with fail
    rw [← hHW.out]
    refine (tapeMay_no A c l s W3 hok (by omega)).mono ?_
    rintro e w1 ⟨rfl, hb1⟩
    have hRs := hr0.below hb1 (by omega)
    have hB1 := hB0.trans (hb1.mono (by omega))
    have z0 := (hRs.1).at 0 _ rfl
    have z1 := (hRs.1).at 1 _ rfl
    have y0 := (hRs.1).free 0 _ rfl
    have y1 := (hRs.1).free 1 _ rfl
    go_wp2_with fail
    refine bodyPost_ret (v := .tuple #[.agg #[.slice none 0 0, .int .i64 0], .int .i64 11]) (by simp [results, Tryd.results22, go_sem, *]) rfl ?_
    exact ⟨_, rfl, Kd.R_nil _ _ _ _ _, (by repeat (first | exact Below.refl _ _ | apply below_alloc | apply pw_below_drewN | apply below_drew1 | (refine Below.setCell ?_ (by first | (simp; done) | (simp; omega) | omega) _) | exact hB1))⟩
end Go.Proofs.YtdffojjimoilgaaDoor.H
