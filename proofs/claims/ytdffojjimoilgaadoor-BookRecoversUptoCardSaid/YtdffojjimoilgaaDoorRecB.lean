/- Tapes: book.Recover: the walk. -/
import Derived.Test.YtdffojjimoilgaaDoorRecA
import Derived.Deep.RegionHeld3
namespace Go.Proofs.YtdffojjimoilgaaDoor.H
open Go.RowKit Go.Proofs.YtdffojjimoilgaaDoorW.PrintWords Go.Proofs.YtdffojjimoilgaaDoorW.PrintLast Go.Proofs.YtdffojjimoilgaaDoorW.PrintMore Go.Proofs.YtdffojjimoilgaaDoor.U
set_option linter.unusedVariables false
set_option linter.unusedSimpArgs false
attribute [local go_sem] min_two min2_int
set_option maxHeartbeats 2000000 in
set_option maxRecDepth 100000 in
theorem recover_calls (A : Option Addr) (c : Nat) (bs : List Int) (s : Int) (m : Int) (w : World) (hr : Kd.C (Kd.int .u8) w A bs.length bs) (hl : bs.length ≤ 1048576) (hby : ∀ x ∈ bs, 0 ≤ x ∧ x ≤ 255)
    (hm : w.cell? ⟨0, 0, none⟩ = some (.int .i64 m)) (hg : 0 < w.heap.size) :
    Calls Tryd.prog 24 #[.agg #[.slice A bs.length c, .int .i64 s]] w (PostRec w (recV bs s)) := by
  obtain ⟨W2, hW2⟩ : ∃ W2 : World, W2 = (w.alloc (.cells #[.slice A bs.length c, .int .i64 s] 37)).alloc (.cells #[.slice none 0 0, .int .i64 0] 37) := ⟨_, rfl⟩
  have hres0 : Blk W2 (w.heap.size + 1) [.slice none 0 0, .int .i64 0] := by rw [hW2]; exact Blk.made_at _ _ _ (by simp)
  have hB0 : Below w.heap.size w W2 := by rw [hW2]; exact (by repeat (first | exact Below.refl _ _ | apply below_alloc | apply pw_below_drewN | apply below_drew1 | (refine Below.setCell ?_ (by first | (simp; done) | (simp; omega) | omega) _) ))
  have hz0 : W2.heap.size = w.heap.size + 2 := by rw [hW2]; simp
  replace hW2 := Lib.hid hW2
  by_cases hok : 0 ≤ s ∧ s ≤ bs.length ∧ bs.length ≤ 100000
  · rw [recV, if_pos hok]
    obtain ⟨o1, o2, o3⟩ := hok
    generalize hF : recFin bs s (recG bs 0 []) = F
    replace hF := Lib.hid hF
    go_enter Tryd.func24, Tryd.ntmps24
    go_wp2_with fail
    rw [← hW2.out]
    refine (open_yes A c bs s W2 (Kd.C_below hr hB0) o1 o2 o3).mono ?_
    rintro e w1 ⟨v1, rfl, hR1, hb1⟩
    obtain ⟨A1, c1, rfl, hc1, hC1⟩ := C_of hR1
    have hz1 := hb1.size
    obtain ⟨W1, hW1⟩ : ∃ W1 : World, W1 = w1.alloc (.cells #[.slice A1 bs.length c1, .int .i64 s] 37) := ⟨_, rfl⟩
    have hT1 : Blk W1 w1.heap.size [.slice A1 bs.length c1, .int .i64 s] := by rw [hW1]; exact Blk.made w1 _ _
    have hRs1 : Blk W1 (w.heap.size + 1) [.slice none 0 0, .int .i64 0] := by rw [hW1]; exact (hres0.below hb1 (by omega)).alloc _
    have hB1 : Below w.heap.size w W1 := by rw [hW1]; exact below_alloc' (hB0.trans (hb1.mono (by omega))) (by omega) _
    have hCd : (Kd.int .u8).C W1 A1 bs.length bs := by rw [hW1]; exact Kd.C_below hC1 (by repeat (first | exact Below.refl _ _ | apply below_alloc | apply pw_below_drewN | apply below_drew1 | (refine Below.setCell ?_ (by first | (simp; done) | (simp; omega) | omega) _) ))
    have hRd : (Kd.int .u8).R 5 W1 W2.heap.size (fun _ => True) (.slice A1 bs.length c1) bs := by rw [hW1]; exact Kd.R_below hR1 (by repeat (first | exact Below.refl _ _ | apply below_alloc | apply pw_below_drewN | apply below_drew1 | (refine Below.setCell ?_ (by first | (simp; done) | (simp; omega) | omega) _) ))
    have hzA : W1.heap.size = w1.heap.size + 1 := by rw [hW1]; simp
    replace hW1 := Lib.hid hW1
    clear hres0 hB0 hR1 hb1 hC1
    go_wp2_with fail
    rw [← hW1.out]
    go_loopw [7, 8] (fun v va wr => ∃ (p : Nat) (acc : List (Int × List AEntry)), p ≤ bs.length ∧ va = .int .i64 p ∧ Kd.R kB 24 wr W1.heap.size (fun _ => True) v acc ∧ acc.length ≤ p ∧ recFin bs s (recG bs p acc) = F ∧ Below W1.heap.size W1 wr) (fun _ va _ => bs.length - (intOf va).toNat)
    case atStart => exact ⟨0, [], Nat.zero_le _, rfl, Kd.R_nil _ _ _ _ _, Nat.le_refl _, hF.out, Below.refl _ _⟩
    case round =>
      clear hF
      obtain ⟨p, acc, hp, rfl, hRow, hacc, hrec, hBr⟩ := hrel
      have hzr := hBr.size
      have hT := hT1.below hBr (by omega)
      have hRs := hRs1.below hBr (by omega)
      have hBw := hB1.trans (hBr.mono (by omega))
      obtain ⟨A0, cap0, rfl⟩ := Kd.R_slice hRow
      have m0 := hT.at 0 _ rfl
      have hDr := Kd.C_drop (m := p) (c := c1) hCd hp hc1
      simp only [show (Kd.int .u8).sz = 1 from rfl, List.length_drop] at hDr
      obtain ⟨i, hi, hzz⟩ := Option.map_eq_some_iff.1 (rowU8 : RowT Tryd.prog _ _ _ _ _).hinfo
      simp only [Prod.mk.injEq] at hzz
      have hcf := cut_from (P := Tryd.prog) 29 5 .i64 rowU8.ht hi 1 hzz.2.1 A1 bs.length c1 (p : Int) (by omega) (by omega)
      rw [Int.toNat_natCast] at hcf
      generalize (if c1 = p then A1 else Option.map (fun x => x.add (p * 1)) A1) = Ap at *
      clear hzz hi
      have i0 : (0 : Int) ≤ (p : Int) := by omega
      have i1 : (p : Int) ≤ (bs.length : Int) := by omega
      obtain ⟨Wb, hWb⟩ : ∃ Wb : World, Wb = wr.alloc (.cells #[.slice Ap (bs.length - p) (c1 - p), .bool false] 75) := ⟨_, rfl⟩
      have hrd0 : Rdr W1 Wb wr.heap.size bs p false := ⟨Ap, c1 - p, by rw [hWb]; exact Blk.made wr _ _, hDr, by omega, hp⟩
      have hBb : Below wr.heap.size wr Wb := by rw [hWb]; exact (by repeat (first | exact Below.refl _ _ | apply below_alloc | apply pw_below_drewN | apply below_drew1 | (refine Below.setCell ?_ (by first | (simp; done) | (simp; omega) | omega) _) ))
      have hBWb := hBr.trans (hBb.mono hzr)
      have K1 := number_calls W1 Wb wr.heap.size bs p false 3 hrd0 hl (by omega) hby hzr hBWb
      have hbd := numS_bd (bs := bs) (st := (p, false)) (k := 3) (by omega) hby
      have hstop := fun h => recG_stop (bs := bs) (p := p) (acc := acc) h
      have hbad := fun q n e h h2 => recG_bad (bs := bs) (p := p) (q := q) (n := n) (acc := acc) e h h2
      have hgo := fun q n e h h2 => recG_go (bs := bs) (p := p) (q := q) (n := n) (acc := acc) e h h2
      have hadv := numS_adv bs p 3
      obtain ⟨⟨nn, ⟨q, s3⟩⟩, e1⟩ : ∃ z, numS bs (p, false) 3 = z := ⟨_, rfl⟩
      rw [e1] at K1 hbd hstop hadv
      simp only at K1 hbd hstop hadv
      obtain ⟨n, rfl⟩ := Int.eq_ofNat_of_zero_le hbd.1
      simp only [Int.toNat_natCast] at hstop
      replace K1 := Lib.hid K1
      by_cases hno : s3 = true ∨ bs.length < q + n
      · rw [hstop hno] at hrec
        replace hrec := Lib.hid hrec
        clear hstop hbad hgo hadv e1
        replace hWb := Lib.hid hWb
        go_wp2_with fail
        rw [← hWb.out]
        refine K1.out.mono ?_
        rintro e w2 ⟨rfl, hrd2, hg2⟩
        have hb2 := hBb.grown hg2 hBb.size (fun z hz => by have := Option.some.inj hz; omega)
        go_wp2_with fail
        refine (take_no W1 w2 wr.heap.size bs q s3 (n : Int) hrd2 hl (by omega) (by
          rcases hno with h1 | h1
          · exact .inl h1
          · right; obtain ⟨_, _, _, _, _, hq⟩ := hrd2; omega)).mono ?_
        rintro e w3 ⟨rfl, hrd3, hg3⟩
        have hb3 := hb2.grown hg3 hb2.size (fun z hz => by have := Option.some.inj hz; omega)
        obtain ⟨Ar, cr, hkb, _, _, _⟩ := hrd3
        have g1 := hkb.at 1 _ rfl
        have hT3 := hT.below hb3 (by omega)
        have hRs3 := hRs.below hb3 (by omega)
        have hR3 := Kd.R_below hRow hb3
        have hB3 := hBw.trans (hb3.mono hBw.size)
        have hRd3 := Kd.R_below hRd (hBr.trans (hb3.mono hzr))
        clear hT hRs hRow hrd2 hb2 hkb hg2 hg3
        go_wp2_with fail
        replace hrec := hrec.out
        subst hrec
        have hlp : (bs.take p).length = p := by rw [List.length_take]; omega
        have t0 := (hT3).at 0 _ rfl
        have t1 := (hT3).at 1 _ rfl
        have q0 := (hRs3).at 0 _ rfl
        have q1 := (hRs3).at 1 _ rfl
        have p0 := (hRs3).free 0 _ rfl
        have p1 := (hRs3).free 1 _ rfl
        have nn : ¬ w1.heap.size = w.heap.size + 1 := by omega
        have nn2 : ¬ w.heap.size + 1 = w1.heap.size := by omega
        have hpc : (p : Int) ≤ (c1 : Int) := by omega
        have hpp : ((p : Int)).toNat = p := by omega
        by_cases hsp : s ≤ (p : Int)
        · have hif : (if s ≤ (p : Int) then s else (p : Int)) = s := if_pos hsp
          go_region_held3 (fun w' => w'.cell? ⟨w1.heap.size, 0, none⟩ = some (.slice A1 bs.length c1) ∧ w'.cell? ⟨w1.heap.size, 1, none⟩ = some (.int .i64 s))
            (first | exact ⟨cell_drew' t0, cell_drew' t1⟩ | exact ⟨cell_other' (cell_other' (cell_drew' t0) nn _) nn _, cell_other' (cell_other' (cell_drew' t1) nn _) nn _⟩ | go_keep)
            (fail)
          go_wp2_with fail
          refine bodyPost_ret (v := .tuple #[.slice A0 acc.length cap0, .agg #[.slice A1 p p, .int .i64 (s)], .int .i64 0]) (by simp [results, Tryd.results24, go_sem, *]) rfl ?_
          refine ⟨A0, cap0, A1, p, ?_, ?_, ?_, (by repeat (first | exact Below.refl _ _ | apply below_alloc | apply pw_below_drewN | apply below_drew1 | (refine Below.setCell ?_ (by first | (simp; done) | (simp; omega) | omega) _) | exact hB3))⟩
          · show _ = Ending.returned (.tuple #[.slice A0 acc.length cap0, .agg #[.slice A1 (bs.take p).length p, .int .i64 (if s ≤ (p : Int) then s else (p : Int))], .int .i64 0])
            rw [hlp, hif]
          · show kB.C _ A0 acc.length acc
            exact C_ofR (R_elder (p := ⟨w.heap.size + 1, 1, none⟩) (R_elder (p := ⟨w.heap.size + 1, 0, none⟩) (Kd.R_drew hR3) (show w.heap.size + 1 < W1.heap.size by omega) _) (show w.heap.size + 1 < W1.heap.size by omega) _)
          · show (Kd.int .u8).C _ A1 (bs.take p).length (bs.take p)
            exact Kd.C_take (C_ofR (R_elder (p := ⟨w.heap.size + 1, 1, none⟩) (R_elder (p := ⟨w.heap.size + 1, 0, none⟩) (Kd.R_drew hRd3) (show w.heap.size + 1 < W2.heap.size by omega) _) (show w.heap.size + 1 < W2.heap.size by omega) _)) hp
        · have hif : (if s ≤ (p : Int) then s else (p : Int)) = (p : Int) := if_neg hsp
          have hsp2 : (p : Int) ≤ s := by omega
          go_region_held3 (fun w' => w'.cell? ⟨w1.heap.size, 0, none⟩ = some (.slice A1 bs.length c1) ∧ w'.cell? ⟨w1.heap.size, 1, none⟩ = some (.int .i64 s))
            (first | exact ⟨cell_drew' t0, cell_drew' t1⟩ | exact ⟨cell_other' (cell_other' (cell_drew' t0) nn _) nn _, cell_other' (cell_other' (cell_drew' t1) nn _) nn _⟩ | go_keep)
            (fail)
          go_wp2_with fail
          refine bodyPost_ret (v := .tuple #[.slice A0 acc.length cap0, .agg #[.slice A1 p p, .int .i64 ((p : Int))], .int .i64 0]) (by simp [results, Tryd.results24, go_sem, *]) rfl ?_
          refine ⟨A0, cap0, A1, p, ?_, ?_, ?_, (by repeat (first | exact Below.refl _ _ | apply below_alloc | apply pw_below_drewN | apply below_drew1 | (refine Below.setCell ?_ (by first | (simp; done) | (simp; omega) | omega) _) | exact hB3))⟩
          · show _ = Ending.returned (.tuple #[.slice A0 acc.length cap0, .agg #[.slice A1 (bs.take p).length p, .int .i64 (if s ≤ (p : Int) then s else (p : Int))], .int .i64 0])
            rw [hlp, hif]
          · show kB.C _ A0 acc.length acc
            exact C_ofR (R_elder (p := ⟨w.heap.size + 1, 1, none⟩) (R_elder (p := ⟨w.heap.size + 1, 0, none⟩) (Kd.R_drew hR3) (show w.heap.size + 1 < W1.heap.size by omega) _) (show w.heap.size + 1 < W1.heap.size by omega) _)
          · show (Kd.int .u8).C _ A1 (bs.take p).length (bs.take p)
            exact Kd.C_take (C_ofR (R_elder (p := ⟨w.heap.size + 1, 1, none⟩) (R_elder (p := ⟨w.heap.size + 1, 0, none⟩) (Kd.R_drew hRd3) (show w.heap.size + 1 < W2.heap.size by omega) _) (show w.heap.size + 1 < W2.heap.size by omega) _)) hp
      · obtain ⟨rfl, hqn⟩ : s3 = false ∧ q + n ≤ bs.length := by
          refine ⟨?_, ?_⟩
          · cases s3 with
            | false => rfl
            | true => exact absurd (.inl rfl) hno
          · rcases Nat.lt_or_ge bs.length (q + n) with h1 | h1
            · exact absurd (.inr h1) hno
            · exact h1
        obtain ⟨hq3, _⟩ := hadv rfl
        have hbad := hbad q n e1 hqn
        have hgo := hgo q n e1 hqn
        clear hstop hadv e1 hno
        replace hWb := Lib.hid hWb
        have hlen : ((bs.drop q).take n).length = n := by rw [List.length_take, List.length_drop]; omega
        have hDec := fun A c w hr hc hm hg => decode_calls A c ((bs.drop q).take n) m w hr hc (by omega) (fun x hx => hby x (List.mem_of_mem_drop (List.mem_of_mem_take hx))) hm hg
        rw [hlen] at hDec
        have hTk := fun w2 h => take_yes W1 w2 wr.heap.size bs q n h hl hqn
        generalize decV ((bs.drop q).take n) = d at *
        obtain ⟨f, u, es⟩ := d
        simp only at hbad hgo hDec
        generalize (bs.drop q).take n = piece at *
        replace hDec := Lib.hid hDec
        replace hTk := Lib.hid hTk
        replace hbad := Lib.hid hbad
        replace hgo := Lib.hid hgo
        replace hrec := Lib.hid hrec
        go_wp2_with fail
        rw [← hWb.out]
        refine K1.out.mono ?_
        rintro e w2 ⟨rfl, hrd2, hg2⟩
        have hb2 := hBb.grown hg2 hBb.size (fun z hz => by have := Option.some.inj hz; omega)
        go_wp2_with fail
        refine (hTk.out _ hrd2).mono ?_
        rintro e w3 ⟨⟨Af, ⟨cf, rfl, hcf2⟩, hCf⟩, hrd3, hg3⟩
        have hb3 := hb2.grown hg3 hb2.size (fun z hz => by have := Option.some.inj hz; omega)
        obtain ⟨Ar, cr, hkb, _, _, _⟩ := hrd3
        have g1 := hkb.at 1 _ rfl
        have hB3 := hBw.trans (hb3.mono hBw.size)
        have hBr3 := hBr.trans (hb3.mono hzr)
        have hCf3 := Kd.C_below hCf hBr3
        have hz3 := hb3.size
        clear hrd2 hb2 hkb hg2 hg3 hCf
        go_wp2_with fail
        refine (hDec.out _ _ _ hCf3 hcf2 (cell_below hB3 hm hg) (by omega)).mono ?_
        intro e w4 hw4
        obtain ⟨vb, rfl, hRb, hb4⟩ := hw4
        simp only at hRb ⊢
        obtain ⟨Ab, cb, rfl⟩ := Kd.R_slice hRb
        have hb4' := hb3.trans (hb4.mono hz3)
        obtain ⟨Wc, hWc⟩ : ∃ Wc : World, Wc = w4.alloc (.cells #[.int .i64 u, .slice Ab es.length cb] 24) := ⟨_, rfl⟩
        have hbc : Below wr.heap.size wr Wc := by rw [hWc]; exact below_alloc' hb4' (by have := hb4'.size; omega) _
        have hX : Blk Wc w4.heap.size [.int .i64 u, .slice Ab es.length cb] := by rw [hWc]; exact Blk.made w4 _ _
        have hRbc : Kd.R kAEntry 60 Wc w3.heap.size (fun _ => True) (.slice Ab es.length cb) es := by rw [hWc]; exact Kd.R_below hRb (by repeat (first | exact Below.refl _ _ | apply below_alloc | apply pw_below_drewN | apply below_drew1 | (refine Below.setCell ?_ (by first | (simp; done) | (simp; omega) | omega) _) ))
        replace hWc := Lib.hid hWc
        have hTc := hT.below hbc (by omega)
        have hRsc := hRs.below hbc (by omega)
        have hRc := Kd.R_below hRow hbc
        have hBc := hBw.trans (hbc.mono hBw.size)
        have hRdc := Kd.R_below hRd (hBr.trans (hbc.mono hzr))
        have hvo : ∀ k, (Value.slice A0 acc.length cap0).ownBlock = some k → k < w3.heap.size := fun k hk => by have := ((Kd.R_bound hRow).1 k hk).2.2.1; omega
        have hzc := hbc.size
        have hzx := hX.lt
        have hb4z := hb4.size
        clear hT hRs hRow hRb hb4' hb4 hCf3
        by_cases hf : f = 0
        · subst hf
          have hgo2 := hgo.out rfl
          have hr2 := hrec.out
          rw [hgo2] at hr2
          replace hr2 := Lib.hid hr2
          clear hgo2
          have hw5 : w3.heap.size ≤ Wc.heap.size := by have := hb4z; omega
          have hbcz := hBr.trans (hbc.mono hzr)
          have hWc2 := hWc.out
          clear hWc
          subst hWc2
          have hln : (acc ++ [(u, es)]).length = acc.length + 1 := by rw [List.length_append]; rfl
          replace hln := Lib.hid hln
          go_wp2_with (at_builtin; refine snocB_list W1.heap.size w3.heap.size rfl _ _ rfl (.slice A0 acc.length cap0) acc u es (.slice Ab es.length cb) (by first | rfl | (simp [Act.eval]; done)) (by first | rfl | (simp [Act.eval]; done)) hRbc (by omega) hvo hRc (by omega) (by omega) ?_; intro v9 w9 hR9 hb9)
          go_roundw
          case rel => exact ⟨q + n, acc ++ [(u, es)], hqn, (by show Value.int .i64 _ = Value.int .i64 _; congr 1; omega), hR9, (by rw [hln.out]; omega), hr2.out, hbcz.trans hb9⟩
          case measure => simp [intOf]; omega
        · have hfb : (f != 0) = true := by simp [hf]
          have hr2 := hrec.out
          rw [hbad.out hf] at hr2
          clear hf hrec
          have hrec := Lib.hid hr2
          clear hr2
          go_wp2_with fail
          rw [← hWc.out]
          replace hrec := hrec.out
          subst hrec
          have hlp : (bs.take p).length = p := by rw [List.length_take]; omega
          have t0 := (hTc).at 0 _ rfl
          have t1 := (hTc).at 1 _ rfl
          have q0 := (hRsc).at 0 _ rfl
          have q1 := (hRsc).at 1 _ rfl
          have p0 := (hRsc).free 0 _ rfl
          have p1 := (hRsc).free 1 _ rfl
          have nn : ¬ w1.heap.size = w.heap.size + 1 := by omega
          have nn2 : ¬ w.heap.size + 1 = w1.heap.size := by omega
          have hpc : (p : Int) ≤ (c1 : Int) := by omega
          have hpp : ((p : Int)).toNat = p := by omega
          by_cases hsp : s ≤ (p : Int)
          · have hif : (if s ≤ (p : Int) then s else (p : Int)) = s := if_pos hsp
            go_region_held3 (fun w' => w'.cell? ⟨w1.heap.size, 0, none⟩ = some (.slice A1 bs.length c1) ∧ w'.cell? ⟨w1.heap.size, 1, none⟩ = some (.int .i64 s))
              (first | exact ⟨cell_drew' t0, cell_drew' t1⟩ | exact ⟨cell_other' (cell_other' (cell_drew' t0) nn _) nn _, cell_other' (cell_other' (cell_drew' t1) nn _) nn _⟩ | go_keep)
              (fail)
            go_wp2_with fail
            refine bodyPost_ret (v := .tuple #[.slice A0 acc.length cap0, .agg #[.slice A1 p p, .int .i64 (s)], .int .i64 0]) (by simp [results, Tryd.results24, go_sem, *]) rfl ?_
            refine ⟨A0, cap0, A1, p, ?_, ?_, ?_, (by repeat (first | exact Below.refl _ _ | apply below_alloc | apply pw_below_drewN | apply below_drew1 | (refine Below.setCell ?_ (by first | (simp; done) | (simp; omega) | omega) _) | exact hBc))⟩
            · show _ = Ending.returned (.tuple #[.slice A0 acc.length cap0, .agg #[.slice A1 (bs.take p).length p, .int .i64 (if s ≤ (p : Int) then s else (p : Int))], .int .i64 0])
              rw [hlp, hif]
            · show kB.C _ A0 acc.length acc
              exact C_ofR (R_elder (p := ⟨w.heap.size + 1, 1, none⟩) (R_elder (p := ⟨w.heap.size + 1, 0, none⟩) (Kd.R_drew hRc) (show w.heap.size + 1 < W1.heap.size by omega) _) (show w.heap.size + 1 < W1.heap.size by omega) _)
            · show (Kd.int .u8).C _ A1 (bs.take p).length (bs.take p)
              exact Kd.C_take (C_ofR (R_elder (p := ⟨w.heap.size + 1, 1, none⟩) (R_elder (p := ⟨w.heap.size + 1, 0, none⟩) (Kd.R_drew hRdc) (show w.heap.size + 1 < W2.heap.size by omega) _) (show w.heap.size + 1 < W2.heap.size by omega) _)) hp
          · have hif : (if s ≤ (p : Int) then s else (p : Int)) = (p : Int) := if_neg hsp
            have hsp2 : (p : Int) ≤ s := by omega
            go_region_held3 (fun w' => w'.cell? ⟨w1.heap.size, 0, none⟩ = some (.slice A1 bs.length c1) ∧ w'.cell? ⟨w1.heap.size, 1, none⟩ = some (.int .i64 s))
              (first | exact ⟨cell_drew' t0, cell_drew' t1⟩ | exact ⟨cell_other' (cell_other' (cell_drew' t0) nn _) nn _, cell_other' (cell_other' (cell_drew' t1) nn _) nn _⟩ | go_keep)
              (fail)
            go_wp2_with fail
            refine bodyPost_ret (v := .tuple #[.slice A0 acc.length cap0, .agg #[.slice A1 p p, .int .i64 ((p : Int))], .int .i64 0]) (by simp [results, Tryd.results24, go_sem, *]) rfl ?_
            refine ⟨A0, cap0, A1, p, ?_, ?_, ?_, (by repeat (first | exact Below.refl _ _ | apply below_alloc | apply pw_below_drewN | apply below_drew1 | (refine Below.setCell ?_ (by first | (simp; done) | (simp; omega) | omega) _) | exact hBc))⟩
            · show _ = Ending.returned (.tuple #[.slice A0 acc.length cap0, .agg #[.slice A1 (bs.take p).length p, .int .i64 (if s ≤ (p : Int) then s else (p : Int))], .int .i64 0])
              rw [hlp, hif]
            · show kB.C _ A0 acc.length acc
              exact C_ofR (R_elder (p := ⟨w.heap.size + 1, 1, none⟩) (R_elder (p := ⟨w.heap.size + 1, 0, none⟩) (Kd.R_drew hRc) (show w.heap.size + 1 < W1.heap.size by omega) _) (show w.heap.size + 1 < W1.heap.size by omega) _)
            · show (Kd.int .u8).C _ A1 (bs.take p).length (bs.take p)
              exact Kd.C_take (C_ofR (R_elder (p := ⟨w.heap.size + 1, 1, none⟩) (R_elder (p := ⟨w.heap.size + 1, 0, none⟩) (Kd.R_drew hRdc) (show w.heap.size + 1 < W2.heap.size by omega) _) (show w.heap.size + 1 < W2.heap.size by omega) _)) hp
  · rw [recV, if_neg hok]
    go_enter Tryd.func24, Tryd.ntmps24
    go_wp2_with fail
    rw [← hW2.out]
    refine (open_no A c bs s W2 hok (by omega)).mono ?_
    rintro e w1 ⟨rfl, hb1⟩
    have hRs := hres0.below hb1 (by omega)
    have hB1 := hB0.trans (hb1.mono (by omega))
    have q0 := (hRs).at 0 _ rfl
    have q1 := (hRs).at 1 _ rfl
    have p0 := (hRs).free 0 _ rfl
    have p1 := (hRs).free 1 _ rfl
    have hz1 := hb1.size
    have hzz : w.heap.size + 1 < w1.heap.size := by omega
    go_wp2_with fail
    refine bodyPost_ret (v := .tuple #[.slice none 0 0, .agg #[.slice none 0 0, .int .i64 0], .int .i64 11]) (by simp [results, Tryd.results24, go_sem, *]) rfl ?_
    exact ⟨none, 0, none, 0, rfl, C_none _ _, C_none _ _, (by repeat (first | exact Below.refl _ _ | apply below_alloc | apply pw_below_drewN | apply below_drew1 | (refine Below.setCell ?_ (by first | (simp; done) | (simp; omega) | omega) _) | exact hB1))⟩
end Go.Proofs.YtdffojjimoilgaaDoor.H
