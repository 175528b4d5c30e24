/- Batches read from bytes: the reference's BatchOf. -/
import Derived.Test.YtdffojjimoilgaaDoorDecC
import Derived.Deep.RegionHeld3
namespace Go.Proofs.YtdffojjimoilgaaDoor.H
open Go.RowKit Go.Proofs.YtdffojjimoilgaaDoorW.PrintWords Go.Proofs.YtdffojjimoilgaaDoorW.PrintLast Go.Proofs.YtdffojjimoilgaaDoorW.PrintMore Go.Proofs.YtdffojjimoilgaaDoor.U
set_option linter.unusedVariables false
set_option linter.unusedSimpArgs false
theorem numS_le (bs : List Int) (st : Nat × Bool) (k : Nat) (h : st.1 ≤ bs.length) : (numS bs st k).2.1 ≤ bs.length := by
  unfold numS
  split
  · exact h
  · rename_i h2
    have : ¬ bs.length < st.1 + k := fun h3 => h2 (.inr h3)
    simp only; omega
theorem txtS_le (bs : List Int) (st : Nat × Bool) (h : st.1 ≤ bs.length) : (txtS bs st).2.1 ≤ bs.length := by
  unfold txtS
  split
  · exact numS_le bs st 2 h
  · rename_i h2
    have : ¬ bs.length < (numS bs st 2).2.1 + (numS bs st 2).1.toNat := fun h3 => h2 (.inr h3)
    simp only; omega
theorem entS_short (bs : List Int) (p : Nat) (h : bs.length < p + 5) : (entS bs (p, false)).2.2 = true := by
  have key : (numS bs (numS bs (numS bs (p, false) 1).2 1).2 3).2.2 = true := by
    by_cases h1 : p < bs.length
    · rw [num_1 bs p h1]
      by_cases h2 : p + 1 < bs.length
      · rw [num_1 bs (p + 1) h2, numS_out bs (p + 1 + 1) 3 (by omega)]
      · rw [numS_out bs (p + 1) 1 (by omega), numS_short]
    · rw [numS_out bs p 1 (by omega), numS_short, numS_short]
  simp only [entS]
  generalize numS bs (numS bs (numS bs (p, false) 1).2 1).2 3 = z at *
  obtain ⟨u, q, s⟩ := z
  simp only at key
  subst key
  rw [txtS_short, txtS_short, txtS_short]
theorem byte_at {w : World} {ad : Addr} {n : Nat} {bs : List Int} (h : (Kd.int .u8).C w (some ad) n bs) (q : Nat) (hq : q < n) : w.cell? (ad.add q) = some (.int .u8 (rd bs (q : Int))) := by
  obtain ⟨ad2, e, hx⟩ := int_at h q hq
  obtain rfl := Option.some.inj e
  exact hx
theorem byte_at' {w : World} {ad : Addr} {n : Nat} {bs : List Int} (h : (Kd.int .u8).C w (some ad) n bs) (q : Nat) (hq : q + 1 < n) : w.cell? ⟨ad.block, ad.off + (q + 1), none⟩ = some (.int .u8 (rd bs ((q + 1 : Nat) : Int))) := by
  have := byte_at h (q + 1) hq
  rw [show ad.add (q + 1) = ⟨ad.block, ad.off + (q + 1), none⟩ by simp [Addr.add]] at this
  exact this
set_option maxHeartbeats 2000000 in
set_option maxRecDepth 100000 in
theorem batchOf_calls (A : Option Addr) (c : Nat) (bs : List Int) (w : World) (hr : Kd.C (Kd.int .u8) w A bs.length bs) (hc : bs.length ≤ c) (hl : bs.length ≤ 1048576) (hby : ∀ x ∈ bs, 0 ≤ x ∧ x ≤ 255) :
    Calls Tryd.prog 19 #[.slice A bs.length c] w (PostBatch w (decV bs)) := by
  have k0 := Blk.made w #[.int .i64 0, .slice none 0 0] 24
  by_cases hbig : 100000 < bs.length
  · rw [decV, if_pos hbig]
    have hbig' : (100000 : Int) < (bs.length : Int) := by omega
    have q0 := (k0).at 0 _ rfl
    have q1 := (k0).at 1 _ rfl
    have p0 := (k0).free 0 _ rfl
    have p1 := (k0).free 1 _ rfl
    clear k0
    go_enter Tryd.func19, Tryd.ntmps19
    go_wp2_with fail
    refine bodyPost_ret (v := .tuple #[.agg #[.int .i64 0, .slice none 0 0], .int .i64 1]) (by simp [results, Tryd.results19, go_sem, *]) rfl ?_
    exact ⟨_, rfl, Kd.R_nil _ _ _ _ _, (by repeat (first | exact Below.refl _ _ | apply below_alloc | apply pw_below_drewN | apply below_drew1 | (refine Below.setCell ?_ (by first | (simp; done) | (simp; omega) | omega) _) ))⟩
  · rw [decV, if_neg hbig]
    have hbig' : ¬ (100000 : Int) < (bs.length : Int) := by omega
    by_cases hsm : bs.length < 2
    · have hsm' : (bs.length : Int) < 2 := by omega
      have hF : decFin bs.length (numS bs (0, false) 1).1 (decL bs (numS bs (numS bs (0, false) 1).2 1).2 (numS bs (numS bs (0, false) 1).2 1).1.toNat []) = (4, 0, []) := by
        have h2 : ∃ q, numS bs (numS bs (0, false) 1).2 1 = (0, (q, true)) := by
          by_cases h1 : 0 < bs.length
          · rw [num_1 bs 0 h1, numS_out bs (0 + 1) 1 (by omega)]; exact ⟨_, rfl⟩
          · rw [numS_out bs 0 1 (by omega), numS_short]; exact ⟨_, rfl⟩
        obtain ⟨q, h2⟩ := h2
        rw [h2, decL_end (fun h => by cases h.2), decFin, if_pos rfl]
      rw [hF]
      have q0 := (k0).at 0 _ rfl
      have q1 := (k0).at 1 _ rfl
      have p0 := (k0).free 0 _ rfl
      have p1 := (k0).free 1 _ rfl
      clear k0 hF
      go_enter Tryd.func19, Tryd.ntmps19
      go_wp2_with fail
      refine bodyPost_ret (v := .tuple #[.agg #[.int .i64 0, .slice none 0 0], .int .i64 4]) (by simp [results, Tryd.results19, go_sem, *]) rfl ?_
      exact ⟨_, rfl, Kd.R_nil _ _ _ _ _, (by repeat (first | exact Below.refl _ _ | apply below_alloc | apply pw_below_drewN | apply below_drew1 | (refine Below.setCell ?_ (by first | (simp; done) | (simp; omega) | omega) _) ))⟩
    · have hsm' : ¬ (bs.length : Int) < 2 := by omega
      rw [num_1 bs 0 (by omega), show ((0 + 1, false) : Nat × Bool) = (1, false) from rfl]
      rw [num_1 bs 1 (by omega)]
      obtain ⟨ad, e1, x0⟩ := int_at hr 0 (by omega)
      subst e1
      obtain ⟨u1, u2⟩ := rd_bd hby 0 (by omega)
      obtain ⟨v1, v2⟩ := rd_bd hby 1 (by omega)
      have hb1 := fun wr (hB : Below w.heap.size w wr) => byte_at (Kd.C_below hr hB) 1 (by omega)
      have hb1' := fun wr (hB : Below w.heap.size w wr) => byte_at' (Kd.C_below hr hB) 0 (by omega)
      generalize rd bs ((0 : Nat) : Int) = us at *
      generalize rd bs ((1 : Nat) : Int) = mn at *
      obtain ⟨many, rfl⟩ := Int.eq_ofNat_of_zero_le v1
      simp only [Int.toNat_natCast]
      generalize hF : decFin bs.length us (decL bs (2, false) many []) = F
      replace hF := Lib.hid hF
      replace hb1 := Lib.hid hb1
      replace hb1' := Lib.hid hb1'
      have j1 : (0 : Int) < (bs.length : Int) := by omega
      have j2 : (1 : Int) < (bs.length : Int) := by omega
      have x0' : w.cell? ad = some (.int .u8 us) := by simpa [Addr.add] using x0
      have x0a := cell_alloc' x0' (.cells #[.int .i64 0, .slice none 0 0] 24)
      go_enter Tryd.func19, Tryd.ntmps19
      go_wp2_with fail
      go_loopw [5, 6] (fun va vi wr => ∃ (p : Nat) (acc : List AEntry) (v : Value), p ≤ bs.length ∧ va = .int .i64 p ∧ vi = .int .i64 (acc.length : Int) ∧ Blk wr w.heap.size [.int .i64 0, .slice none 0 0] ∧ Blk wr (w.heap.size + 1) [.int .i64 us, v] ∧ Kd.R kAEntry 60 wr (w.heap.size + 2) (fun _ => True) v acc ∧ acc.length ≤ many ∧ (∀ x ∈ acc, okE x) ∧ decFin bs.length us (decL bs (p, false) many acc) = F ∧ Below w.heap.size w wr) (fun _ vi _ => many - (intOf vi).toNat)
      case atStart => exact ⟨2, [], .slice none 0 0, by omega, rfl, rfl, k0.alloc _, Blk.made_at _ _ _ (by simp), Kd.R_nil _ _ _ _ _, Nat.zero_le _, (fun x hx => by cases hx), hF.out, (by repeat (first | exact Below.refl _ _ | apply below_alloc | apply pw_below_drewN | apply below_drew1 | (refine Below.setCell ?_ (by first | (simp; done) | (simp; omega) | omega) _) ))⟩
      case round =>
        clear k0 hF
        obtain ⟨p, acc, v, hp, rfl, rfl, hres, ho, hRow, hacc, hok, hdec, hB⟩ := hrel
        obtain ⟨A0, cap0, rfl⟩ := Kd.R_slice hRow
        have hzo := ho.lt
        have m0 := ho.at 0 _ rfl
        have m1 := ho.at 1 _ rfl
        have z1 := hb1.out wr hB
        have z1' := hb1'.out wr hB
        by_cases hgo : acc.length < many
        · have i1 : (acc.length : Int) < (many : Int) := by omega
          rw [decL_go hgo rfl] at hdec
          by_cases h5 : bs.length < p + 5
          · rw [decL_end (fun h => by rw [entS_short bs p h5] at h; cases h.2), decFin, if_pos (entS_short bs p h5)] at hdec
            subst hdec
            have i2 : (bs.length : Int) < (p : Int) + 5 := by omega
            have q0 := (hres).at 0 _ rfl
            have q1 := (hres).at 1 _ rfl
            have p0 := (hres).free 0 _ rfl
            have p1 := (hres).free 1 _ rfl
            go_wp2_with fail
            refine bodyPost_ret (v := .tuple #[.agg #[.int .i64 0, .slice none 0 0], .int .i64 4]) (by simp [results, Tryd.results19, go_sem, *]) rfl ?_
            exact ⟨_, rfl, Kd.R_nil _ _ _ _ _, (by repeat (first | exact Below.refl _ _ | apply below_alloc | apply pw_below_drewN | apply below_drew1 | (refine Below.setCell ?_ (by first | (simp; done) | (simp; omega) | omega) _) | exact hB))⟩
          · have i2 : ¬ (bs.length : Int) < (p : Int) + 5 := by omega
            have hoke := entS_ok bs (p, false) hl
            have hCw := Kd.C_below hr hB
            have y0 := byte_at hCw p (by omega)
            have y1 := byte_at' hCw p (by omega)
            have y2 := byte_at' hCw (p + 1) (by omega)
            have y3 := byte_at' hCw (p + 2) (by omega)
            have y4 := byte_at' hCw (p + 3) (by omega)
            have e1 := num_1 bs p (by omega)
            have e2 := num_1 bs (p + 1) (by omega)
            have e3 := num_3 bs (p + 2) (by omega)
            simp only [Nat.add_assoc, Nat.reduceAdd] at y1 y2 y3 y4 e1 e2 e3
            obtain ⟨a1, a2⟩ := rd_bd hby p (by omega)
            obtain ⟨b1, b2⟩ := rd_bd hby (p + 1) (by omega)
            obtain ⟨c1, c2⟩ := rd_bd hby (p + 2) (by omega)
            obtain ⟨d1, d2⟩ := rd_bd hby (p + 3) (by omega)
            obtain ⟨f1, f2⟩ := rd_bd hby (p + 4) (by omega)
            generalize rd bs (p : Int) = va at *
            generalize rd bs ((p + 1 : Nat) : Int) = vb at *
            generalize rd bs ((p + 2 : Nat) : Int) = vc at *
            generalize rd bs ((p + 3 : Nat) : Int) = vd at *
            generalize rd bs ((p + 4 : Nat) : Int) = ve at *
            have t4 := txtS_le bs (p + 5, false) (show p + 5 ≤ bs.length by omega)
            have K4 := fun w' hr' => pieceAt_calls (some ad) c bs (p + 5) false w' hr' hc hl (by omega) hby
            rw [show atI (p + 5, false) = (p : Int) + 5 by show ((p + 5 : Nat) : Int) = _; omega] at K4
            obtain ⟨⟨eb, ⟨p6, s6⟩⟩, e4⟩ : ∃ z, txtS bs (p + 5, false) = z := ⟨_, rfl⟩
            rw [e4] at K4 t4
            simp only at K4 t4
            have t5 := txtS_le bs (p6, s6) t4
            have K5 := fun w' hr' => pieceAt_calls (some ad) c bs p6 s6 w' hr' hc hl t4 hby
            obtain ⟨⟨et, ⟨p7, s7⟩⟩, e5⟩ : ∃ z, txtS bs (p6, s6) = z := ⟨_, rfl⟩
            rw [e5] at K5 t5
            simp only at K5 t5
            have t6 := txtS_le bs (p7, s7) t5
            have K6 := fun w' hr' => pieceAt_calls (some ad) c bs p7 s7 w' hr' hc hl t5 hby
            obtain ⟨⟨ex, ⟨p8, s8⟩⟩, e6⟩ : ∃ z, txtS bs (p7, s7) = z := ⟨_, rfl⟩
            rw [e6] at K6 t6
            simp only at K6 t6
            have hent : entS bs (p, false) = (⟨va, eb, 65536 * vc + 256 * vd + ve, vb, et, ex⟩, (p8, s8)) := by simp only [entS, e1, e2, e3, e4, e5, e6]
            rw [hent] at hdec hoke
            simp only at hdec hoke
            clear hent e1 e2 e3 e4 e5 e6
            generalize atI (p6, s6) = a6 at *
            generalize atI (p7, s7) = a7 at *
            replace K4 := Lib.hid K4
            replace K5 := Lib.hid K5
            replace K6 := Lib.hid K6
            have hdec := Lib.hid hdec
            have r1 : IntKind.i64.wrap ((p : Int) + 1) = (p : Int) + 1 := by rw [IntKind.wrap_i64]; omega
            have r2 : IntKind.i64.wrap ((p : Int) + 2) = (p : Int) + 2 := by rw [IntKind.wrap_i64]; omega
            have r3 : IntKind.i64.wrap ((p : Int) + 3) = (p : Int) + 3 := by rw [IntKind.wrap_i64]; omega
            have r4 : IntKind.i64.wrap ((p : Int) + 4) = (p : Int) + 4 := by rw [IntKind.wrap_i64]; omega
            have n0 : ((p : Int)).toNat = p := by omega
            have n1 : ((p : Int) + 1).toNat = p + 1 := by omega
            have n2 : ((p : Int) + 2).toNat = p + 2 := by omega
            have n3 : ((p : Int) + 3).toNat = p + 3 := by omega
            have n4 : ((p : Int) + 4).toNat = p + 4 := by omega
            have o0 : (0 : Int) ≤ (p : Int) ∧ (p : Int) < (bs.length : Int) := by omega
            have o1 : (0 : Int) ≤ (p : Int) + 1 ∧ (p : Int) + 1 < (bs.length : Int) := by omega
            have o2 : (0 : Int) ≤ (p : Int) + 2 ∧ (p : Int) + 2 < (bs.length : Int) := by omega
            have o3 : (0 : Int) ≤ (p : Int) + 3 ∧ (p : Int) + 3 < (bs.length : Int) := by omega
            have o4 : (0 : Int) ≤ (p : Int) + 4 ∧ (p : Int) + 4 < (bs.length : Int) := by omega
            obtain ⟨o01, o02⟩ := o0
            obtain ⟨o11, o12⟩ := o1
            obtain ⟨o21, o22⟩ := o2
            obtain ⟨o31, o32⟩ := o3
            obtain ⟨o41, o42⟩ := o4
            have w0 : IntKind.i64.wrap va = va := by rw [IntKind.wrap_i64]; omega
            have w1 : IntKind.i64.wrap vb = vb := by rw [IntKind.wrap_i64]; omega
            have w2 : IntKind.i64.wrap vc = vc := by rw [IntKind.wrap_i64]; omega
            have w3 : IntKind.i64.wrap vd = vd := by rw [IntKind.wrap_i64]; omega
            have w4 : IntKind.i64.wrap ve = ve := by rw [IntKind.wrap_i64]; omega
            have w5 : IntKind.i64.wrap (65536 * vc) = 65536 * vc := by rw [IntKind.wrap_i64]; omega
            have w6 : IntKind.i64.wrap (256 * vd) = 256 * vd := by rw [IntKind.wrap_i64]; omega
            have w7 : IntKind.i64.wrap (65536 * vc + 256 * vd) = 65536 * vc + 256 * vd := by rw [IntKind.wrap_i64]; omega
            have w8 : IntKind.i64.wrap (65536 * vc + 256 * vd + ve) = 65536 * vc + 256 * vd + ve := by rw [IntKind.wrap_i64]; omega
            go_wp2_with fail
            go_region_held3 (fun w' => w'.cell? (ad.add p) = some (.int .u8 va) ∧ w'.cell? ⟨ad.block, ad.off + (p + 1), none⟩ = some (.int .u8 vb) ∧ w'.cell? ⟨ad.block, ad.off + (p + 2), none⟩ = some (.int .u8 vc) ∧ w'.cell? ⟨ad.block, ad.off + (p + 3), none⟩ = some (.int .u8 vd) ∧ w'.cell? ⟨ad.block, ad.off + (p + 4), none⟩ = some (.int .u8 ve))
              (first | exact ⟨cell_drew' y0, cell_drew' y1, cell_drew' y2, cell_drew' y3, cell_drew' y4⟩ | exact ⟨cell_alloc' (cell_drew' y0) _, cell_alloc' (cell_drew' y1) _, cell_alloc' (cell_drew' y2) _, cell_alloc' (cell_drew' y3) _, cell_alloc' (cell_drew' y4) _⟩ | go_keep)
              (fail)
            clear r1 r2 r3 r4 n0 n1 n2 n3 n4 o01 o02 o11 o12 o21 o22 o31 o32 o41 o42 w0 w1 w2 w3 w4 w5 w6 w7 w8 y0 y1 y2 y3 y4 a1 a2 b1 b2 c1 c2 d1 d2 f1 f2
            generalize 65536 * vc + 256 * vd + ve = eu at *
            obtain ⟨Wx, hWx⟩ : ∃ Wx : World, Wx = (wr.alloc (.cells #[.int .i64 va, .string ⟨#[]⟩, .int .i64 eu, .int .i64 vb, .string ⟨#[]⟩, .string ⟨#[]⟩] 60)).drew := ⟨_, rfl⟩
            have hbx : Below wr.heap.size wr Wx := by rw [hWx]; exact (by repeat (first | exact Below.refl _ _ | apply below_alloc | apply pw_below_drewN | apply below_drew1 | (refine Below.setCell ?_ (by first | (simp; done) | (simp; omega) | omega) _) ))
            have hX : Blk Wx wr.heap.size [.int .i64 va, .string ⟨#[]⟩, .int .i64 eu, .int .i64 vb, .string ⟨#[]⟩, .string ⟨#[]⟩] := by rw [hWx]; exact (Blk.made wr _ _).drew
            have hzx : wr.heap.size < Wx.heap.size := hX.lt
            rw [← hWx]
            clear hWx
            have hBx := hB.trans (hbx.mono hB.size)
            go_wp2_with fail
            refine (K4.out _ (Kd.C_below hr hBx)).mono ?_
            rintro e w6 ⟨rfl, hb6⟩
            have hX6 := hX.below hb6 hzx
            have hb6' := hbx.trans (hb6.mono hbx.size)
            have x1 := hX6.at 1 _ rfl
            have f1 := hX6.free 1 _ rfl
            obtain ⟨W6, hW6⟩ : ∃ W6 : World, W6 = w6.setCell ⟨wr.heap.size, 1, none⟩ (.string eb) := ⟨_, rfl⟩
            have hX6s : Blk W6 wr.heap.size [.int .i64 va, .string eb, .int .i64 eu, .int .i64 vb, .string ⟨#[]⟩, .string ⟨#[]⟩] := by rw [hW6]; exact hX6.set 1 _ (by simp)
            have hb6s : Below wr.heap.size wr W6 := by rw [hW6]; exact Below.setCell hb6' (Nat.le_refl _) _
            replace hW6 := Lib.hid hW6
            have hB6 := hB.trans (hb6s.mono hB.size)
            clear hX hbx hBx hb6 hX6 hb6'
            go_wp2_with fail
            rw [← hW6.out]
            clear x1 f1
            refine (K5.out _ (Kd.C_below hr hB6)).mono ?_
            rintro e w7 ⟨rfl, hb7⟩
            have hX7 := hX6s.below hb7 hX6s.lt
            have hb7' := hb6s.trans (hb7.mono hb6s.size)
            have x1 := hX7.at 4 _ rfl
            have f1 := hX7.free 4 _ rfl
            obtain ⟨W7, hW7⟩ : ∃ W7 : World, W7 = w7.setCell ⟨wr.heap.size, 4, none⟩ (.string et) := ⟨_, rfl⟩
            have hX7s : Blk W7 wr.heap.size [.int .i64 va, .string eb, .int .i64 eu, .int .i64 vb, .string et, .string ⟨#[]⟩] := by rw [hW7]; exact hX7.set 4 _ (by simp)
            have hb7s : Below wr.heap.size wr W7 := by rw [hW7]; exact Below.setCell hb7' (Nat.le_refl _) _
            replace hW7 := Lib.hid hW7
            have hB7 := hB.trans (hb7s.mono hB.size)
            clear hX6s hb6s hB6 hb7 hX7 hb7'
            go_wp2_with fail
            rw [← hW7.out]
            clear x1 f1
            refine (K6.out _ (Kd.C_below hr hB7)).mono ?_
            rintro e w8 ⟨rfl, hb8⟩
            have hX8 := hX7s.below hb8 hX7s.lt
            have hb8' := hb7s.trans (hb8.mono hb7s.size)
            have x1 := hX8.at 5 _ rfl
            have f1 := hX8.free 5 _ rfl
            have hX8s := hX8.set 5 (.string ex) (by simp)
            have hb8s := Below.setCell (p := ⟨wr.heap.size, 5, none⟩) hb8' (Nat.le_refl _) (.string ex)
            have hres8 := hres.below hb8s (by omega)
            have ho8 := ho.below hb8s (by omega)
            have hB8 := hB.trans (hb8s.mono hB.size)
            have hR8 := Kd.R_below hRow hb8s
            have hB8w := hB.trans (hb8'.mono hB.size)
            have hz8 := hb8s.size
            clear hX7s hb7s hB7 hb8 hb8' hB
            cases s8 with
            | true =>
              have hdec2 := hdec.out
              rw [decL_end (fun h => by cases h.2), decFin, if_pos rfl] at hdec2
              subst hdec2
              rw [show atI (p8, true) = -1 from rfl]
              have k0 := (hres.below hb8s (by omega)).at 0 _ rfl
              have q0 := (hres8).at 0 _ rfl
              have q1 := (hres8).at 1 _ rfl
              have p0 := (hres8).free 0 _ rfl
              have p1 := (hres8).free 1 _ rfl
              go_wp2_with fail
              refine bodyPost_ret (v := .tuple #[.agg #[.int .i64 0, .slice none 0 0], .int .i64 4]) (by simp [results, Tryd.results19, go_sem, *]) rfl ?_
              exact ⟨_, rfl, Kd.R_nil _ _ _ _ _, (by repeat (first | exact Below.refl _ _ | apply below_alloc | apply pw_below_drewN | apply below_drew1 | (refine Below.setCell ?_ (by first | (simp; done) | (simp; omega) | omega) _) | exact hB8w))⟩
            | false =>
              rw [show atI (p8, false) = (p8 : Int) from rfl]
              have hl1 := Lib.hid (show (acc ++ [(⟨va, eb, eu, vb, et, ex⟩ : AEntry)]).length = acc.length + 1 by rw [List.length_append]; rfl)
              have j8 : ¬ (p8 : Int) < 0 := by omega
              have m1' := ho8.at 1 _ rfl
              have c0 := hX8s.at 0 _ rfl
              have c1 := hX8s.at 1 _ rfl
              have c2 := hX8s.at 2 _ rfl
              have c3 := hX8s.at 3 _ rfl
              have c4 := hX8s.at 4 _ rfl
              have c5 := hX8s.at 5 _ rfl
              go_wp2_with (at_builtin; refine snoc_list rowAEntry (w.heap.size + 2) rfl _ _ rfl (.slice A0 acc.length cap0) acc ⟨va, eb, eu, vb, et, ex⟩ [.int .i64 va, .string eb, .int .i64 eu, .int .i64 vb, .string et, .string ex] rfl (by simp [Act.eval]) rfl hR8 (by omega) (by omega) ?_; intro v9 w9 hR9 hb9 hg9; obtain ⟨A9, c9, rfl⟩ := Kd.R_slice hR9; rw [hl1.out] at hR9 ⊢; have ho9 := ho8.below hb9 (by omega); have m9 := ho9.at 1 _ rfl; have f9 := ho9.free 1 _ rfl)
              have q1 : w.heap.size + 1 ≠ w.heap.size := by omega
              go_roundw
              case rel => exact ⟨p8, _, _, t6, by trivial, by rw [hl1.out]; go_num, (hres8.below hb9 (by omega)).other q1 _, ho9.set 1 _ (by simp), R_elder hR9 (by simp) _, by rw [hl1.out]; omega, (fun x hx => by
                rcases List.mem_append.1 hx with h | h
                · exact hok x h
                · rw [List.mem_singleton.1 h]; exact hoke), hdec.out, Below.setCell (hB8.trans (hb9.mono (by omega))) (show w.heap.size ≤ w.heap.size + 1 by omega) _⟩
              case measure => simp [intOf]; omega
        · have i1 : ¬ (acc.length : Int) < (many : Int) := by omega
          rw [decL_end (fun h => hgo h.1), decFin] at hdec
          simp only at hdec
          rw [if_neg (by decide)] at hdec
          by_cases hlt : p < bs.length
          · rw [if_pos hlt] at hdec
            subst hdec
            have i2 : (p : Int) < (bs.length : Int) := by omega
            have q0 := (hres).at 0 _ rfl
            have q1 := (hres).at 1 _ rfl
            have p0 := (hres).free 0 _ rfl
            have p1 := (hres).free 1 _ rfl
            go_wp2_with fail
            refine bodyPost_ret (v := .tuple #[.agg #[.int .i64 0, .slice none 0 0], .int .i64 3]) (by simp [results, Tryd.results19, go_sem, *]) rfl ?_
            exact ⟨_, rfl, Kd.R_nil _ _ _ _ _, (by repeat (first | exact Below.refl _ _ | apply below_alloc | apply pw_below_drewN | apply below_drew1 | (refine Below.setCell ?_ (by first | (simp; done) | (simp; omega) | omega) _) | exact hB))⟩
          · rw [if_neg hlt] at hdec
            have i2 : ¬ (p : Int) < (bs.length : Int) := by omega
            have HC := batchFault_calls us A0 cap0 acc wr (C_ofR hRow) hok
            by_cases hf : batchFault us acc = 0
            · rw [if_pos hf] at hdec
              rw [hf] at HC
              subst hdec
              clear hf
              replace HC := Lib.hid HC
              go_wp2_with fail
              refine HC.out.mono ?_
              rintro e w9 ⟨rfl, hb9⟩
              have hres9 := hres.below hb9 (by omega)
              have ho9 := ho.below hb9 hzo
              have hR9 := Kd.R_below hRow hb9
              have hB9 := hB.trans (hb9.mono (by omega))
              have t0 := ho9.at 0 _ rfl
              have t1 := ho9.at 1 _ rfl
              have q0 := (hres9).at 0 _ rfl
              have q1 := (hres9).at 1 _ rfl
              have p0 := (hres9).free 0 _ rfl
              have p1 := (hres9).free 1 _ rfl
              have n1 : ¬ w.heap.size = w.heap.size + 1 := by omega
              have n2 : ¬ w.heap.size + 1 = w.heap.size := by omega
              go_wp2_with fail
              refine bodyPost_ret (v := .tuple #[.agg #[.int .i64 us, .slice A0 acc.length cap0], .int .i64 0]) (by simp [results, Tryd.results19, go_sem, *]) rfl ?_
              exact ⟨_, rfl, Kd.R_lower (R_elder (p := ⟨w.heap.size, 1, none⟩) (R_elder (p := ⟨w.heap.size, 0, none⟩) hR9 (show w.heap.size < w.heap.size + 2 by omega) _) (show w.heap.size < w.heap.size + 2 by omega) _) (by omega), (by repeat (first | exact Below.refl _ _ | apply below_alloc | apply pw_below_drewN | apply below_drew1 | (refine Below.setCell ?_ (by first | (simp; done) | (simp; omega) | omega) _) | exact hB9))⟩
            · rw [if_neg hf] at hdec
              generalize batchFault us acc = f at *
              have hfb : (f != 0) = true := by simp [hf]
              subst hdec
              clear hf
              replace HC := Lib.hid HC
              go_wp2_with fail
              refine HC.out.mono ?_
              rintro e w9 ⟨rfl, hb9⟩
              have hres9 := hres.below hb9 (by omega)
              have hB9 := hB.trans (hb9.mono (by omega))
              have q0 := (hres9).at 0 _ rfl
              have q1 := (hres9).at 1 _ rfl
              have p0 := (hres9).free 0 _ rfl
              have p1 := (hres9).free 1 _ rfl
              go_wp2_with fail
              refine bodyPost_ret (v := .tuple #[.agg #[.int .i64 0, .slice none 0 0], .int .i64 f]) (by simp [results, Tryd.results19, go_sem, *]) rfl ?_
              exact ⟨_, rfl, Kd.R_nil _ _ _ _ _, (by repeat (first | exact Below.refl _ _ | apply below_alloc | apply pw_below_drewN | apply below_drew1 | (refine Below.setCell ?_ (by first | (simp; done) | (simp; omega) | omega) _) | exact hB9))⟩
end Go.Proofs.YtdffojjimoilgaaDoor.H
