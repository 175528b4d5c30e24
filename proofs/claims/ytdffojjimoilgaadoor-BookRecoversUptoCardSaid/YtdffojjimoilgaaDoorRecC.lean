/- Tapes: the reference's TapeRecovered. -/
import Derived.Test.YtdffojjimoilgaaDoorRecA
namespace Go.Proofs.YtdffojjimoilgaaDoor.H
open Go.RowKit Go.Proofs.YtdffojjimoilgaaDoorW.PrintWords Go.Proofs.YtdffojjimoilgaaDoorW.PrintLast Go.Proofs.YtdffojjimoilgaaDoorW.PrintMore Go.Proofs.YtdffojjimoilgaaDoor.U
set_option linter.unusedVariables false
set_option linter.unusedSimpArgs false
set_option maxHeartbeats 2000000 in
set_option maxRecDepth 100000 in
theorem tapeRecovered_calls (A : Option Addr) (c : Nat) (bs : List Int) (s : Int) (w : World) (hr : Kd.C (Kd.int .u8) w A bs.length bs) (hc : bs.length ≤ c) (hl : bs.length ≤ 1048576) (hby : ∀ x ∈ bs, 0 ≤ x ∧ x ≤ 255) :
    Calls Tryd.prog 25 #[.agg #[.slice A bs.length c, .int .i64 s]] w (PostRec w (recV bs s)) := by
  obtain ⟨W2, hW2⟩ : ∃ W2 : World, W2 = (w.alloc (.cells #[.slice A bs.length c, .int .i64 s] 37)).alloc (.cells #[.slice none 0 0, .int .i64 0] 37) := ⟨_, rfl⟩
  have hT0 : Blk W2 w.heap.size [.slice A bs.length c, .int .i64 s] := by rw [hW2]; exact (Blk.made w _ _).alloc _
  have hres0 : Blk W2 (w.heap.size + 1) [.slice none 0 0, .int .i64 0] := by rw [hW2]; exact Blk.made_at _ _ _ (by simp)
  have hB0 : Below w.heap.size w W2 := by rw [hW2]; exact (by repeat (first | exact Below.refl _ _ | apply below_alloc | apply pw_below_drewN | apply below_drew1 | (refine Below.setCell ?_ (by first | (simp; done) | (simp; omega) | omega) _) ))
  have hz0 : W2.heap.size = w.heap.size + 2 := by rw [hW2]; simp
  replace hW2 := Lib.hid hW2
  by_cases hok : 0 ≤ s ∧ s ≤ bs.length ∧ bs.length ≤ 100000
  · rw [recV, if_pos hok]
    obtain ⟨o1, o2, o3⟩ := hok
    generalize hF : recFin bs s (recG bs 0 []) = F
    replace hF := Lib.hid hF
    go_enter Tryd.func25, Tryd.ntmps25
    go_wp2_with fail
    rw [← hW2.out]
    refine (tapeMay_yes A c bs s W2 o1 o2 o3).mono ?_
    rintro e w1 ⟨rfl, hb1⟩
    have hT1 := hT0.below hb1 (by omega)
    have hRs1 := hres0.below hb1 (by omega)
    have hB1 := hB0.trans (hb1.mono (by omega))
    clear hT0 hres0 hB0
    go_wp2_with fail
    go_loopw [5, 6] (fun v va wr => ∃ (p : Nat) (acc : List (Int × List AEntry)), p ≤ bs.length ∧ va = .int .i64 p ∧ Kd.R kB 24 wr (w.heap.size + 2) (fun _ => True) v acc ∧ acc.length ≤ p ∧ recFin bs s (recG bs p acc) = F ∧ Blk wr w.heap.size [.slice A bs.length c, .int .i64 s] ∧ Blk wr (w.heap.size + 1) [.slice none 0 0, .int .i64 0] ∧ Below w.heap.size w wr) (fun _ va _ => bs.length - (intOf va).toNat)
    case atStart => exact ⟨0, [], Nat.zero_le _, rfl, Kd.R_nil _ _ _ _ _, Nat.le_refl _, hF.out, hT1, hRs1, hB1⟩
    case round =>
      clear hF hT1 hRs1 hB1
      obtain ⟨p, acc, hp, rfl, hRow, hacc, hrec, hT, hRs, hB⟩ := hrel
      obtain ⟨A0, cap0, rfl⟩ := Kd.R_slice hRow
      have hzr := hRs.lt
      have m0 := hT.at 0 _ rfl
      have m1 := hT.at 1 _ rfl
      by_cases h3 : bs.length < p + 3
      · have i1 : ¬ (p : Int) + 3 ≤ (bs.length : Int) := by omega
        rw [recG_stop (by rw [numS_out bs p 3 h3]; exact .inl rfl)] at hrec
        replace hrec := Lib.hid hrec
        replace hrec := hrec.out
        subst hrec
        have hlp : (bs.take p).length = p := by rw [List.length_take]; omega
        obtain ⟨Wx, hWx⟩ : ∃ Wx : World, Wx = wr := ⟨_, rfl⟩
        have hTx := hT
        have hRsx := hRs
        have hBx := hB
        have hRx := hRow
        rw [← hWx] at hTx hRsx hBx hRx
        have hzx := hRsx.lt
        have hCt := C_pre (Kd.C_below hr hBx) p hp
        have t0 := hTx.at 0 _ rfl
        have t1 := hTx.at 1 _ rfl
        have hpc : (p : Int) ≤ (c : Int) := by omega
        have hp0 : (0 : Int) ≤ (p : Int) := by omega
        have hpp : ((p : Int)).toNat = p := by omega
        have HJ := joined_calls _ c (bs.take p) none 0 [] Wx (by rw [hlp]; exact hCt) (C_none _ _) (by simp; omega)
        rw [hlp, List.append_nil, List.length_nil] at HJ
        replace HJ := Lib.hid HJ
        replace hWx := Lib.hid hWx
        by_cases hsp : s ≤ (p : Int)
        · have hif : (if s ≤ (p : Int) then s else (p : Int)) = s := if_pos hsp
          have hsp2 : ¬ (p : Int) < s := by omega
          first | rw [← hWx.out] | skip
          go_wp2_with fail
          first | rw [← hWx.out] | skip
          with_reducible refine HJ.out.mono ?_
          rintro e w8 ⟨v8, rfl, hR8, hb8⟩
          obtain ⟨A8, c8, rfl⟩ := Kd.R_slice hR8
          rw [hlp] at hR8 ⊢
          have hT8 := hTx.below hb8 (by omega)
          have hRs8 := hRsx.below hb8 (by omega)
          have hRo8 := Kd.R_below hRx hb8
          have hB8 := hBx.trans (hb8.mono (by omega))
          have hz8 := hb8.size
          have q0 := (hRs8).at 0 _ rfl
          have q1 := (hRs8).at 1 _ rfl
          have p0 := (hRs8).free 0 _ rfl
          have p1 := (hRs8).free 1 _ rfl
          go_wp2_with fail
          refine bodyPost_ret (v := .tuple #[.slice A0 acc.length cap0, .agg #[.slice A8 p c8, .int .i64 (s)], .int .i64 0]) (by simp [results, Tryd.results25, go_sem, *]) rfl ?_
          refine ⟨A0, cap0, A8, c8, ?_, ?_, ?_, (by repeat (first | exact Below.refl _ _ | apply below_alloc | apply pw_below_drewN | apply below_drew1 | (refine Below.setCell ?_ (by first | (simp; done) | (simp; omega) | omega) _) | exact hB8))⟩
          · show _ = Ending.returned (.tuple #[.slice A0 acc.length cap0, .agg #[.slice A8 (bs.take p).length c8, .int .i64 (if s ≤ (p : Int) then s else (p : Int))], .int .i64 0])
            rw [hlp, hif]
          · show kB.C _ A0 acc.length acc
            exact C_ofR (R_elder (p := ⟨w.heap.size + 1, 1, none⟩) (R_elder (p := ⟨w.heap.size + 1, 0, none⟩) hRo8 (show w.heap.size + 1 < w.heap.size + 2 by omega) _) (show w.heap.size + 1 < w.heap.size + 2 by omega) _)
          · show (Kd.int .u8).C _ A8 (bs.take p).length (bs.take p)
            have hq := C_ofR (R_elder (p := ⟨w.heap.size + 1, 1, none⟩) (R_elder (p := ⟨w.heap.size + 1, 0, none⟩) hR8 (show w.heap.size + 1 < Wx.heap.size by omega) (.slice A8 p c8)) (show w.heap.size + 1 < Wx.heap.size by omega) (.int .i64 (s)))
            exact hq
        · have hif : (if s ≤ (p : Int) then s else (p : Int)) = (p : Int) := if_neg hsp
          have hsp2 : (p : Int) < s := by omega
          first | rw [← hWx.out] | skip
          go_wp2_with fail
          first | rw [← hWx.out] | skip
          with_reducible refine HJ.out.mono ?_
          rintro e w8 ⟨v8, rfl, hR8, hb8⟩
          obtain ⟨A8, c8, rfl⟩ := Kd.R_slice hR8
          rw [hlp] at hR8 ⊢
          have hT8 := hTx.below hb8 (by omega)
          have hRs8 := hRsx.below hb8 (by omega)
          have hRo8 := Kd.R_below hRx hb8
          have hB8 := hBx.trans (hb8.mono (by omega))
          have hz8 := hb8.size
          have q0 := (hRs8).at 0 _ rfl
          have q1 := (hRs8).at 1 _ rfl
          have p0 := (hRs8).free 0 _ rfl
          have p1 := (hRs8).free 1 _ rfl
          go_wp2_with fail
          refine bodyPost_ret (v := .tuple #[.slice A0 acc.length cap0, .agg #[.slice A8 p c8, .int .i64 ((p : Int))], .int .i64 0]) (by simp [results, Tryd.results25, go_sem, *]) rfl ?_
          refine ⟨A0, cap0, A8, c8, ?_, ?_, ?_, (by repeat (first | exact Below.refl _ _ | apply below_alloc | apply pw_below_drewN | apply below_drew1 | (refine Below.setCell ?_ (by first | (simp; done) | (simp; omega) | omega) _) | exact hB8))⟩
          · show _ = Ending.returned (.tuple #[.slice A0 acc.length cap0, .agg #[.slice A8 (bs.take p).length c8, .int .i64 (if s ≤ (p : Int) then s else (p : Int))], .int .i64 0])
            rw [hlp, hif]
          · show kB.C _ A0 acc.length acc
            exact C_ofR (R_elder (p := ⟨w.heap.size + 1, 1, none⟩) (R_elder (p := ⟨w.heap.size + 1, 0, none⟩) hRo8 (show w.heap.size + 1 < w.heap.size + 2 by omega) _) (show w.heap.size + 1 < w.heap.size + 2 by omega) _)
          · show (Kd.int .u8).C _ A8 (bs.take p).length (bs.take p)
            have hq := C_ofR (R_elder (p := ⟨w.heap.size + 1, 1, none⟩) (R_elder (p := ⟨w.heap.size + 1, 0, none⟩) hR8 (show w.heap.size + 1 < Wx.heap.size by omega) (.slice A8 p c8)) (show w.heap.size + 1 < Wx.heap.size by omega) (.int .i64 ((p : Int))))
            exact hq
      · have i1 : (p : Int) + 3 ≤ (bs.length : Int) := by omega
        have e1 := num_3 bs p (by omega)
        have hC := Kd.C_below hr hB
        obtain ⟨ad, e2, _⟩ := int_at hC p (by omega)
        subst e2
        have y0 := byte_at hC p (by omega)
        have y1 := byte_at' hC p (by omega)
        have y2 := byte_at' hC (p + 1) (by omega)
        simp only [Nat.add_assoc, Nat.reduceAdd] at y1 y2
        obtain ⟨a1, a2⟩ := rd_bd hby p (by omega)
        obtain ⟨b1, b2⟩ := rd_bd hby (p + 1) (by omega)
        obtain ⟨d1, d2⟩ := rd_bd hby (p + 2) (by omega)
        generalize rd bs (p : Int) = va at *
        generalize rd bs ((p + 1 : Nat) : Int) = vb at *
        generalize rd bs ((p + 2 : Nat) : Int) = vc at *
        obtain ⟨n, hn⟩ := Int.eq_ofNat_of_zero_le (show 0 ≤ 65536 * va + 256 * vb + vc by omega)
        rw [hn] at e1
        have hend : (p : Int) + 3 + 65536 * va + 256 * vb + vc = ((p + 3 + n : Nat) : Int) := by omega
        have r1 : IntKind.i64.wrap ((p : Int) + 1) = (p : Int) + 1 := by rw [IntKind.wrap_i64]; omega
        have r2 : IntKind.i64.wrap ((p : Int) + 2) = (p : Int) + 2 := by rw [IntKind.wrap_i64]; omega
        have r3 : IntKind.i64.wrap ((p : Int) + 3) = (p : Int) + 3 := by rw [IntKind.wrap_i64]; omega
        have w0 : IntKind.i64.wrap va = va := by rw [IntKind.wrap_i64]; omega
        have w2 : IntKind.i64.wrap vb = vb := by rw [IntKind.wrap_i64]; omega
        have w3 : IntKind.i64.wrap vc = vc := by rw [IntKind.wrap_i64]; omega
        have w4 : IntKind.i64.wrap (65536 * va) = 65536 * va := by rw [IntKind.wrap_i64]; omega
        have w5 : IntKind.i64.wrap (256 * vb) = 256 * vb := by rw [IntKind.wrap_i64]; omega
        have w6 : IntKind.i64.wrap ((p : Int) + 3 + 65536 * va) = (p : Int) + 3 + 65536 * va := by rw [IntKind.wrap_i64]; omega
        have w7 : IntKind.i64.wrap ((p : Int) + 3 + 65536 * va + 256 * vb) = (p : Int) + 3 + 65536 * va + 256 * vb := by rw [IntKind.wrap_i64]; omega
        have w8 : IntKind.i64.wrap ((p : Int) + 3 + 65536 * va + 256 * vb + vc) = (p : Int) + 3 + 65536 * va + 256 * vb + vc := by rw [IntKind.wrap_i64]; omega
        have n0 : ((p : Int)).toNat = p := by omega
        have n1 : ((p : Int) + 1).toNat = p + 1 := by omega
        have n2 : ((p : Int) + 2).toNat = p + 2 := by omega
        have o1 : (0 : Int) ≤ (p : Int) := by omega
        have o2 : (p : Int) < (bs.length : Int) := by omega
        have o3 : (0 : Int) ≤ (p : Int) + 1 := by omega
        have o4 : (p : Int) + 1 < (bs.length : Int) := by omega
        have o5 : (0 : Int) ≤ (p : Int) + 2 := by omega
        have o6 : (p : Int) + 2 < (bs.length : Int) := by omega
        by_cases hno : bs.length < p + 3 + n
        · rw [recG_stop (by rw [e1]; exact .inr (by simpa using hno))] at hrec
          replace hrec := Lib.hid hrec
          have j1 : (bs.length : Int) < (p : Int) + 3 + 65536 * va + 256 * vb + vc := by omega
          replace hend := Lib.hid hend
          replace hn := Lib.hid hn
          clear e1
          go_wp2_with fail
          go_quiet (fail)
          have hbq : Below wr.heap.size wr (wr.drewN nq) := (by repeat (first | exact Below.refl _ _ | apply below_alloc | apply pw_below_drewN | apply below_drew1 | (refine Below.setCell ?_ (by first | (simp; done) | (simp; omega) | omega) _) ))
          have hTq := hT.below hbq (by omega)
          have hRsq := hRs.below hbq (by omega)
          have hRq := Kd.R_below hRow hbq
          have hBq := hB.trans (hbq.mono (by omega))
          generalize wr.drewN nq = Wq at *
          clear r1 r2 r3 w0 w2 w3 w4 w5 w6 w7 w8 n0 n1 n2 o1 o2 o3 o4 o5 o6 y0 y1 y2 hbq
          have m0 := hTq.at 0 _ rfl
          have m1 := hTq.at 1 _ rfl
          replace hrec := hrec.out
          subst hrec
          have hlp : (bs.take p).length = p := by rw [List.length_take]; omega
          obtain ⟨Wx, hWx⟩ : ∃ Wx : World, Wx = Wq := ⟨_, rfl⟩
          have hTx := hTq
          have hRsx := hRsq
          have hBx := hBq
          have hRx := hRq
          rw [← hWx] at hTx hRsx hBx hRx
          have hzx := hRsx.lt
          have hCt := C_pre (Kd.C_below hr hBx) p hp
          have t0 := hTx.at 0 _ rfl
          have t1 := hTx.at 1 _ rfl
          have hpc : (p : Int) ≤ (c : Int) := by omega
          have hp0 : (0 : Int) ≤ (p : Int) := by omega
          have hpp : ((p : Int)).toNat = p := by omega
          have HJ := joined_calls _ c (bs.take p) none 0 [] Wx (by rw [hlp]; exact hCt) (C_none _ _) (by simp; omega)
          rw [hlp, List.append_nil, List.length_nil] at HJ
          replace HJ := Lib.hid HJ
          replace hWx := Lib.hid hWx
          by_cases hsp : s ≤ (p : Int)
          · have hif : (if s ≤ (p : Int) then s else (p : Int)) = s := if_pos hsp
            have hsp2 : ¬ (p : Int) < s := by omega
            first | rw [← hWx.out] | skip
            go_wp2_with fail
            first | rw [← hWx.out] | skip
            with_reducible refine HJ.out.mono ?_
            rintro e w8 ⟨v8, rfl, hR8, hb8⟩
            obtain ⟨A8, c8, rfl⟩ := Kd.R_slice hR8
            rw [hlp] at hR8 ⊢
            have hT8 := hTx.below hb8 (by omega)
            have hRs8 := hRsx.below hb8 (by omega)
            have hRo8 := Kd.R_below hRx hb8
            have hB8 := hBx.trans (hb8.mono (by omega))
            have hz8 := hb8.size
            have q0 := (hRs8).at 0 _ rfl
            have q1 := (hRs8).at 1 _ rfl
            have p0 := (hRs8).free 0 _ rfl
            have p1 := (hRs8).free 1 _ rfl
            go_wp2_with fail
            refine bodyPost_ret (v := .tuple #[.slice A0 acc.length cap0, .agg #[.slice A8 p c8, .int .i64 (s)], .int .i64 0]) (by simp [results, Tryd.results25, go_sem, *]) rfl ?_
            refine ⟨A0, cap0, A8, c8, ?_, ?_, ?_, (by repeat (first | exact Below.refl _ _ | apply below_alloc | apply pw_below_drewN | apply below_drew1 | (refine Below.setCell ?_ (by first | (simp; done) | (simp; omega) | omega) _) | exact hB8))⟩
            · show _ = Ending.returned (.tuple #[.slice A0 acc.length cap0, .agg #[.slice A8 (bs.take p).length c8, .int .i64 (if s ≤ (p : Int) then s else (p : Int))], .int .i64 0])
              rw [hlp, hif]
            · show kB.C _ A0 acc.length acc
              exact C_ofR (R_elder (p := ⟨w.heap.size + 1, 1, none⟩) (R_elder (p := ⟨w.heap.size + 1, 0, none⟩) hRo8 (show w.heap.size + 1 < w.heap.size + 2 by omega) _) (show w.heap.size + 1 < w.heap.size + 2 by omega) _)
            · show (Kd.int .u8).C _ A8 (bs.take p).length (bs.take p)
              have hq := C_ofR (R_elder (p := ⟨w.heap.size + 1, 1, none⟩) (R_elder (p := ⟨w.heap.size + 1, 0, none⟩) hR8 (show w.heap.size + 1 < Wx.heap.size by omega) (.slice A8 p c8)) (show w.heap.size + 1 < Wx.heap.size by omega) (.int .i64 (s)))
              exact hq
          · have hif : (if s ≤ (p : Int) then s else (p : Int)) = (p : Int) := if_neg hsp
            have hsp2 : (p : Int) < s := by omega
            first | rw [← hWx.out] | skip
            go_wp2_with fail
            first | rw [← hWx.out] | skip
            with_reducible refine HJ.out.mono ?_
            rintro e w8 ⟨v8, rfl, hR8, hb8⟩
            obtain ⟨A8, c8, rfl⟩ := Kd.R_slice hR8
            rw [hlp] at hR8 ⊢
            have hT8 := hTx.below hb8 (by omega)
            have hRs8 := hRsx.below hb8 (by omega)
            have hRo8 := Kd.R_below hRx hb8
            have hB8 := hBx.trans (hb8.mono (by omega))
            have hz8 := hb8.size
            have q0 := (hRs8).at 0 _ rfl
            have q1 := (hRs8).at 1 _ rfl
            have p0 := (hRs8).free 0 _ rfl
            have p1 := (hRs8).free 1 _ rfl
            go_wp2_with fail
            refine bodyPost_ret (v := .tuple #[.slice A0 acc.length cap0, .agg #[.slice A8 p c8, .int .i64 ((p : Int))], .int .i64 0]) (by simp [results, Tryd.results25, go_sem, *]) rfl ?_
            refine ⟨A0, cap0, A8, c8, ?_, ?_, ?_, (by repeat (first | exact Below.refl _ _ | apply below_alloc | apply pw_below_drewN | apply below_drew1 | (refine Below.setCell ?_ (by first | (simp; done) | (simp; omega) | omega) _) | exact hB8))⟩
            · show _ = Ending.returned (.tuple #[.slice A0 acc.length cap0, .agg #[.slice A8 (bs.take p).length c8, .int .i64 (if s ≤ (p : Int) then s else (p : Int))], .int .i64 0])
              rw [hlp, hif]
            · show kB.C _ A0 acc.length acc
              exact C_ofR (R_elder (p := ⟨w.heap.size + 1, 1, none⟩) (R_elder (p := ⟨w.heap.size + 1, 0, none⟩) hRo8 (show w.heap.size + 1 < w.heap.size + 2 by omega) _) (show w.heap.size + 1 < w.heap.size + 2 by omega) _)
            · show (Kd.int .u8).C _ A8 (bs.take p).length (bs.take p)
              have hq := C_ofR (R_elder (p := ⟨w.heap.size + 1, 1, none⟩) (R_elder (p := ⟨w.heap.size + 1, 0, none⟩) hR8 (show w.heap.size + 1 < Wx.heap.size by omega) (.slice A8 p c8)) (show w.heap.size + 1 < Wx.heap.size by omega) (.int .i64 ((p : Int))))
              exact hq
        · have hqn : p + 3 + n ≤ bs.length := by omega
          have hbad := fun h2 => recG_bad (acc := acc) e1 hqn h2
          have hgo := fun h2 => recG_go (acc := acc) e1 hqn h2
          have j1 : ¬ (bs.length : Int) < (p : Int) + 3 + 65536 * va + 256 * vb + vc := by omega
          obtain ⟨i, hi, hzz⟩ := Option.map_eq_some_iff.1 (rowU8 : RowT Tryd.prog _ _ _ _ _).hinfo
          simp only [Prod.mk.injEq] at hzz
          have hct := cut_mid (P := Tryd.prog) 29 5 .i64 .i64 rowU8.ht hi 1 hzz.2.1 (some ad) bs.length c ((p : Int) + 3) ((p : Int) + 3 + 65536 * va + 256 * vb + vc) (by omega) (by omega) (by omega) hc
          rw [show ((p : Int) + 3).toNat = p + 3 by omega, show ((p : Int) + 3 + 65536 * va + 256 * vb + vc).toNat = p + 3 + n by omega, Nat.add_sub_cancel_left] at hct
          have hM := Kd.C_mid (lo := p + 3) (hi := p + 3 + n) hr (by omega) (by omega) hc
          simp only [show (Kd.int .u8).sz = 1 from rfl] at hM
          have hdt : (bs.take (p + 3 + n)).drop (p + 3) = (bs.drop (p + 3)).take n := by rw [List.drop_take, Nat.add_sub_cancel_left]
          rw [hdt] at hM
          have hlen : ((bs.drop (p + 3)).take n).length = n := by rw [List.length_take, List.length_drop]; omega
          have hby2 : ∀ x ∈ (bs.drop (p + 3)).take n, 0 ≤ x ∧ x ≤ 255 := fun x hx => hby x (List.mem_of_mem_drop (List.mem_of_mem_take hx))
          generalize (if c = p + 3 then (some ad) else Option.map (fun x => x.add ((p + 3) * 1)) (some ad)) = A' at *
          generalize (bs.drop (p + 3)).take n = piece at *
          have HD := fun W hr' => batchOf_calls A' (c - (p + 3)) piece W hr' (by omega) (by omega) hby2
          generalize decV piece = d at *
          obtain ⟨f, u, es⟩ := d
          simp only at hbad hgo
          rw [hlen] at HD hM
          replace HD := Lib.hid HD
          replace hbad := Lib.hid hbad
          replace hgo := Lib.hid hgo
          replace hrec := Lib.hid hrec
          replace hend := Lib.hid hend
          replace hn := Lib.hid hn
          replace hlen := Lib.hid hlen
          clear e1 hzz hi hdt hno
          go_wp2_with fail
          go_quiet (fail)
          have hbq : Below wr.heap.size wr (wr.drewN nq) := (by repeat (first | exact Below.refl _ _ | apply below_alloc | apply pw_below_drewN | apply below_drew1 | (refine Below.setCell ?_ (by first | (simp; done) | (simp; omega) | omega) _) ))
          have hTq := hT.below hbq (by omega)
          have hRsq := hRs.below hbq (by omega)
          have hRq := Kd.R_below hRow hbq
          have hBq := hB.trans (hbq.mono (by omega))
          have hzq := hbq.size
          generalize wr.drewN nq = Wq at *
          clear r1 r2 r3 w0 w2 w3 w4 w5 w6 w7 w8 n0 n1 n2 o1 o2 o3 o4 o5 o6 y0 y1 y2 hbq m0 m1
          have m0 := hTq.at 0 _ rfl
          have m1 := hTq.at 1 _ rfl
          have k3 : (0 : Int) ≤ (p : Int) + 3 := by omega
          go_wp2_with fail
          refine (HD.out _ (Kd.C_below hM hBq)).mono ?_
          intro e w4 hw4
          obtain ⟨vb2, rfl, hRb, hb4⟩ := hw4
          simp only at hRb ⊢
          obtain ⟨Ab, cb, rfl⟩ := Kd.R_slice hRb
          have hz4 := hb4.size
          have hbc : Below Wq.heap.size Wq (w4.alloc (.cells #[.int .i64 u, .slice Ab es.length cb] 24)) := below_alloc' hb4 (by omega) _
          have hX : Blk (w4.alloc (.cells #[.int .i64 u, .slice Ab es.length cb] 24)) w4.heap.size [.int .i64 u, .slice Ab es.length cb] := Blk.made w4 _ _
          have hRbc : Kd.R kAEntry 60 (w4.alloc (.cells #[.int .i64 u, .slice Ab es.length cb] 24)) Wq.heap.size (fun _ => True) (.slice Ab es.length cb) es := Kd.R_below hRb (by repeat (first | exact Below.refl _ _ | apply below_alloc | apply pw_below_drewN | apply below_drew1 | (refine Below.setCell ?_ (by first | (simp; done) | (simp; omega) | omega) _) ))
          have hTc := hTq.below hbc (by omega)
          have hRsc := hRsq.below hbc (by omega)
          have hRc := Kd.R_below hRq hbc
          have hBc := hBq.trans (hbc.mono (by omega))
          have hvo : ∀ k, (Value.slice A0 acc.length cap0).ownBlock = some k → k < Wq.heap.size := fun k hk => ((Kd.R_bound hRq).1 k hk).2.2.1
          have hzc := hbc.size
          have hzw : w.heap.size + 2 ≤ Wq.heap.size := by omega
          by_cases hf : f = 0
          · subst hf
            have hr2 := hrec.out
            rw [hgo.out rfl] at hr2
            replace hr2 := Lib.hid hr2
            have hln : (acc ++ [(u, es)]).length = acc.length + 1 := by rw [List.length_append]; rfl
            replace hln := Lib.hid hln
            go_wp2_with (at_builtin; refine snocB_list (w.heap.size + 2) Wq.heap.size rfl _ _ rfl (.slice A0 acc.length cap0) acc u es (.slice Ab es.length cb) (by first | rfl | (simp [Act.eval]; done)) (by first | rfl | (simp [Act.eval]; done)) hRbc hzw hvo hRc (by omega) (by omega) ?_; intro v9 w9 hR9 hb9)
            go_roundw
            case rel => exact ⟨p + 3 + n, acc ++ [(u, es)], hqn, (by rw [hend.out]), hR9, (by rw [hln.out]; omega), hr2.out, hTc.below hb9 (by omega), hRsc.below hb9 (by omega), hBc.trans (hb9.mono (by omega))⟩
            case measure =>
              rw [hend.out]; simp [intOf]; omega
          · have hfb : (f != 0) = true := by simp [hf]
            have hr2 := hrec.out
            rw [hbad.out hf] at hr2
            clear hf hrec
            have hrec := Lib.hid hr2
            clear hr2
            have hT4 := hTq.below hb4 (by omega)
            have m40 := hT4.at 0 _ rfl
            have m41 := hT4.at 1 _ rfl
            have hz44 : w.heap.size < w4.heap.size := by omega
            replace hrec := hrec.out
            subst hrec
            have hlp : (bs.take p).length = p := by rw [List.length_take]; omega
            obtain ⟨Wx, hWx⟩ : ∃ Wx : World, Wx = w4.alloc (.cells #[.int .i64 u, .slice Ab es.length cb] 24) := ⟨_, rfl⟩
            have hTx := hTc
            have hRsx := hRsc
            have hBx := hBc
            have hRx := hRc
            rw [← hWx] at hTx hRsx hBx hRx
            have hzx := hRsx.lt
            have hCt := C_pre (Kd.C_below hr hBx) p hp
            have t0 := hTx.at 0 _ rfl
            have t1 := hTx.at 1 _ rfl
            have hpc : (p : Int) ≤ (c : Int) := by omega
            have hp0 : (0 : Int) ≤ (p : Int) := by omega
            have hpp : ((p : Int)).toNat = p := by omega
            have HJ := joined_calls _ c (bs.take p) none 0 [] Wx (by rw [hlp]; exact hCt) (C_none _ _) (by simp; omega)
            rw [hlp, List.append_nil, List.length_nil] at HJ
            replace HJ := Lib.hid HJ
            replace hWx := Lib.hid hWx
            by_cases hsp : s ≤ (p : Int)
            · have hif : (if s ≤ (p : Int) then s else (p : Int)) = s := if_pos hsp
              have hsp2 : ¬ (p : Int) < s := by omega
              first | rw [← hWx.out] | skip
              go_wp2_with fail
              first | rw [← hWx.out] | skip
              with_reducible refine HJ.out.mono ?_
              rintro e w8 ⟨v8, rfl, hR8, hb8⟩
              obtain ⟨A8, c8, rfl⟩ := Kd.R_slice hR8
              rw [hlp] at hR8 ⊢
              have hT8 := hTx.below hb8 (by omega)
              have hRs8 := hRsx.below hb8 (by omega)
              have hRo8 := Kd.R_below hRx hb8
              have hB8 := hBx.trans (hb8.mono (by omega))
              have hz8 := hb8.size
              have q0 := (hRs8).at 0 _ rfl
              have q1 := (hRs8).at 1 _ rfl
              have p0 := (hRs8).free 0 _ rfl
              have p1 := (hRs8).free 1 _ rfl
              go_wp2_with fail
              refine bodyPost_ret (v := .tuple #[.slice A0 acc.length cap0, .agg #[.slice A8 p c8, .int .i64 (s)], .int .i64 0]) (by simp [results, Tryd.results25, go_sem, *]) rfl ?_
              refine ⟨A0, cap0, A8, c8, ?_, ?_, ?_, (by repeat (first | exact Below.refl _ _ | apply below_alloc | apply pw_below_drewN | apply below_drew1 | (refine Below.setCell ?_ (by first | (simp; done) | (simp; omega) | omega) _) | exact hB8))⟩
              · show _ = Ending.returned (.tuple #[.slice A0 acc.length cap0, .agg #[.slice A8 (bs.take p).length c8, .int .i64 (if s ≤ (p : Int) then s else (p : Int))], .int .i64 0])
                rw [hlp, hif]
              · show kB.C _ A0 acc.length acc
                exact C_ofR (R_elder (p := ⟨w.heap.size + 1, 1, none⟩) (R_elder (p := ⟨w.heap.size + 1, 0, none⟩) hRo8 (show w.heap.size + 1 < w.heap.size + 2 by omega) _) (show w.heap.size + 1 < w.heap.size + 2 by omega) _)
              · show (Kd.int .u8).C _ A8 (bs.take p).length (bs.take p)
                have hq := C_ofR (R_elder (p := ⟨w.heap.size + 1, 1, none⟩) (R_elder (p := ⟨w.heap.size + 1, 0, none⟩) hR8 (show w.heap.size + 1 < Wx.heap.size by omega) (.slice A8 p c8)) (show w.heap.size + 1 < Wx.heap.size by omega) (.int .i64 (s)))
                exact hq
            · have hif : (if s ≤ (p : Int) then s else (p : Int)) = (p : Int) := if_neg hsp
              have hsp2 : (p : Int) < s := by omega
              first | rw [← hWx.out] | skip
              go_wp2_with fail
              first | rw [← hWx.out] | skip
              with_reducible refine HJ.out.mono ?_
              rintro e w8 ⟨v8, rfl, hR8, hb8⟩
              obtain ⟨A8, c8, rfl⟩ := Kd.R_slice hR8
              rw [hlp] at hR8 ⊢
              have hT8 := hTx.below hb8 (by omega)
              have hRs8 := hRsx.below hb8 (by omega)
              have hRo8 := Kd.R_below hRx hb8
              have hB8 := hBx.trans (hb8.mono (by omega))
              have hz8 := hb8.size
              have q0 := (hRs8).at 0 _ rfl
              have q1 := (hRs8).at 1 _ rfl
              have p0 := (hRs8).free 0 _ rfl
              have p1 := (hRs8).free 1 _ rfl
              go_wp2_with fail
              refine bodyPost_ret (v := .tuple #[.slice A0 acc.length cap0, .agg #[.slice A8 p c8, .int .i64 ((p : Int))], .int .i64 0]) (by simp [results, Tryd.results25, go_sem, *]) rfl ?_
              refine ⟨A0, cap0, A8, c8, ?_, ?_, ?_, (by repeat (first | exact Below.refl _ _ | apply below_alloc | apply pw_below_drewN | apply below_drew1 | (refine Below.setCell ?_ (by first | (simp; done) | (simp; omega) | omega) _) | exact hB8))⟩
              · show _ = Ending.returned (.tuple #[.slice A0 acc.length cap0, .agg #[.slice A8 (bs.take p).length c8, .int .i64 (if s ≤ (p : Int) then s else (p : Int))], .int .i64 0])
                rw [hlp, hif]
              · show kB.C _ A0 acc.length acc
                exact C_ofR (R_elder (p := ⟨w.heap.size + 1, 1, none⟩) (R_elder (p := ⟨w.heap.size + 1, 0, none⟩) hRo8 (show w.heap.size + 1 < w.heap.size + 2 by omega) _) (show w.heap.size + 1 < w.heap.size + 2 by omega) _)
              · show (Kd.int .u8).C _ A8 (bs.take p).length (bs.take p)
                have hq := C_ofR (R_elder (p := ⟨w.heap.size + 1, 1, none⟩) (R_elder (p := ⟨w.heap.size + 1, 0, none⟩) hR8 (show w.heap.size + 1 < Wx.heap.size by omega) (.slice A8 p c8)) (show w.heap.size + 1 < Wx.heap.size by omega) (.int .i64 ((p : Int))))
                exact hq
  · rw [recV, if_neg hok]
    go_enter Tryd.func25, Tryd.ntmps25
    go_wp2_with fail
    rw [← hW2.out]
    refine (tapeMay_no A c bs s W2 hok (by omega)).mono ?_
    rintro e w1 ⟨rfl, hb1⟩
    have hRs := hres0.below hb1 (by omega)
    have hB1 := hB0.trans (hb1.mono (by omega))
    have q0 := (hRs).at 0 _ rfl
    have q1 := (hRs).at 1 _ rfl
    have p0 := (hRs).free 0 _ rfl
    have p1 := (hRs).free 1 _ rfl
    go_wp2_with fail
    refine bodyPost_ret (v := .tuple #[.slice none 0 0, .agg #[.slice none 0 0, .int .i64 0], .int .i64 11]) (by simp [results, Tryd.results25, go_sem, *]) rfl ?_
    exact ⟨none, 0, none, 0, rfl, C_none _ _, C_none _ _, (by repeat (first | exact Below.refl _ _ | apply below_alloc | apply pw_below_drewN | apply below_drew1 | (refine Below.setCell ?_ (by first | (simp; done) | (simp; omega) | omega) _) | exact hB1))⟩
end Go.Proofs.YtdffojjimoilgaaDoor.H
