/- Batches read from bytes: book.Decode. -/
import Derived.Test.YtdffojjimoilgaaDoorDecA
namespace Go.Proofs.YtdffojjimoilgaaDoor.H
open Go.RowKit Go.Proofs.YtdffojjimoilgaaDoorW.PrintWords Go.Proofs.YtdffojjimoilgaaDoorW.PrintLast Go.Proofs.YtdffojjimoilgaaDoorW.PrintMore Go.Proofs.YtdffojjimoilgaaDoor.U
set_option linter.unusedVariables false
set_option linter.unusedSimpArgs false
def entS (bs : List Int) (st : Nat × Bool) : AEntry × (Nat × Bool) :=
  (⟨(numS bs st 1).1, (txtS bs (numS bs (numS bs (numS bs st 1).2 1).2 3).2).1, (numS bs (numS bs (numS bs st 1).2 1).2 3).1, (numS bs (numS bs st 1).2 1).1,
    (txtS bs (txtS bs (numS bs (numS bs (numS bs st 1).2 1).2 3).2).2).1, (txtS bs (txtS bs (txtS bs (numS bs (numS bs (numS bs st 1).2 1).2 3).2).2).2).1⟩,
   (txtS bs (txtS bs (txtS bs (numS bs (numS bs (numS bs st 1).2 1).2 3).2).2).2).2)
def decL (bs : List Int) (st : Nat × Bool) (many : Nat) (acc : List AEntry) : List AEntry × (Nat × Bool) :=
  if acc.length < many ∧ st.2 = false then decL bs (entS bs st).2 many (acc ++ [(entS bs st).1]) else (acc, st)
termination_by many - acc.length
decreasing_by rw [List.length_append]; simp only [List.length_cons, List.length_nil]; omega
def decFin (n : Nat) (us : Int) (L : List AEntry × (Nat × Bool)) : Int × Int × List AEntry :=
  if L.2.2 = true then (4, 0, []) else if L.2.1 < n then (3, 0, []) else if batchFault us L.1 = 0 then (0, us, L.1) else (batchFault us L.1, 0, [])
def decV (bs : List Int) : Int × Int × List AEntry :=
  if 100000 < bs.length then (1, 0, [])
  else decFin bs.length (numS bs (0, false) 1).1 (decL bs (numS bs (numS bs (0, false) 1).2 1).2 (numS bs (numS bs (0, false) 1).2 1).1.toNat [])
theorem nums_size (l : List Int) : (strOfNums l).size = l.length := by simp [strOfNums, ByteArray.size]
theorem txtS_size (bs : List Int) (st : Nat × Bool) : (txtS bs st).1.size ≤ bs.length := by
  unfold txtS
  split
  · exact Nat.zero_le _
  · simp only [nums_size, List.length_take, List.length_drop]; omega
theorem entS_ok (bs : List Int) (st : Nat × Bool) (h : bs.length ≤ 1048576) : okE (entS bs st).1 :=
  ⟨Nat.le_trans (txtS_size _ _) h, Nat.le_trans (txtS_size _ _) h, Nat.le_trans (txtS_size _ _) h⟩
theorem decL_go {bs : List Int} {st : Nat × Bool} {many : Nat} {acc : List AEntry} (h : acc.length < many) (h2 : st.2 = false) : decL bs st many acc = decL bs (entS bs st).2 many (acc ++ [(entS bs st).1]) := by
  conv => lhs; rw [decL, if_pos ⟨h, h2⟩]
theorem decL_end {bs : List Int} {st : Nat × Bool} {many : Nat} {acc : List AEntry} (h : ¬ (acc.length < many ∧ st.2 = false)) : decL bs st many acc = (acc, st) := by
  rw [decL, if_neg h]
theorem Rdr.lt {w wr : World} {b : Nat} {bs : List Int} {p : Nat} {sh : Bool} (h : Rdr w wr b bs p sh) : b < wr.heap.size := by
  obtain ⟨A, c, h1, h2⟩ := h; exact h1.lt
theorem Rdr.alloc {w wr : World} {b : Nat} {bs : List Int} {p : Nat} {sh : Bool} (h : Rdr w wr b bs p sh) (o : Obj) : Rdr w (wr.alloc o) b bs p sh := by
  obtain ⟨A, c, h1, h2⟩ := h; exact ⟨A, c, h1.alloc o, h2⟩
theorem Rdr.other {w wr : World} {b : Nat} {bs : List Int} {p : Nat} {sh : Bool} (h : Rdr w wr b bs p sh) {c j : Nat} (hne : c ≠ b) (u : Value) : Rdr w (wr.setCell ⟨c, j, none⟩ u) b bs p sh := by
  obtain ⟨A, c', h1, h2⟩ := h; exact ⟨A, c', h1.other hne u, h2⟩
theorem Rdr.below {w wr w1 : World} {b B : Nat} {bs : List Int} {p : Nat} {sh : Bool} (h : Rdr w wr b bs p sh) (hb : Below B wr w1) (hB : b < B) : Rdr w w1 b bs p sh := by
  obtain ⟨A, c', h1, h2⟩ := h; exact ⟨A, c', h1.below hb hB, h2⟩
def PostBatch (w : World) (R : Int × Int × List AEntry) (e : Ending) (w' : World) : Prop :=
  ∃ v : Value, e = .returned (.tuple #[.agg #[.int .i64 R.2.1, v], .int .i64 R.1]) ∧ Kd.R kAEntry 60 w' w.heap.size (fun _ => True) v R.2.2 ∧ Below w.heap.size w w'
def sliceLen : Option Value → Nat
  | some (.slice _ n _) => n
  | _ => 0
set_option maxHeartbeats 2000000 in
set_option maxRecDepth 100000 in
theorem decode_calls (A : Option Addr) (c : Nat) (bs : List Int) (m : Int) (w : World) (hr : Kd.C (Kd.int .u8) w A bs.length bs) (hc : bs.length ≤ c) (hl : bs.length ≤ 1048576) (hby : ∀ x ∈ bs, 0 ≤ x ∧ x ≤ 255)
    (hm : w.cell? ⟨0, 0, none⟩ = some (.int .i64 m)) (hg : 0 < w.heap.size) :
    Calls Tryd.prog 18 #[.slice A bs.length c] w (PostBatch w (decV bs)) := by
  by_cases hbig : 100000 < bs.length
  · rw [decV, if_pos hbig]
    have hbig' : (100000 : Int) < (bs.length : Int) := by omega
    have k0 := Blk.made w #[.int .i64 0, .slice none 0 0] 24
    have q0 := (k0).at 0 _ rfl
    have q1 := (k0).at 1 _ rfl
    have p0 := (k0).free 0 _ rfl
    have p1 := (k0).free 1 _ rfl
    clear k0
    go_enter Tryd.func18, Tryd.ntmps18
    go_wp2_with fail
    refine bodyPost_ret (v := .tuple #[.agg #[.int .i64 0, .slice none 0 0], .int .i64 1]) (by simp [results, Tryd.results18, go_sem, *]) rfl ?_
    exact ⟨_, rfl, Kd.R_nil _ _ _ _ _, (by repeat (first | exact Below.refl _ _ | apply below_alloc | apply pw_below_drewN | apply below_drew1 | (refine Below.setCell ?_ (by first | (simp; done) | (simp; omega) | omega) _) ))⟩
  · rw [decV, if_neg hbig]
    have hbig' : ¬ (100000 : Int) < (bs.length : Int) := by omega
    have N1 := fun wr h hB => number_calls w wr (w.heap.size + 1) bs 0 false 1 h hl (by omega) hby (by omega) hB
    have hb1 := numS_bd (bs := bs) (st := (0, false)) (k := 1) (by omega) hby
    generalize numS bs (0, false) 1 = r1 at *
    obtain ⟨us, p1, s1⟩ := r1
    simp only at N1 hb1 ⊢
    have N2 := fun wr h hB => number_calls w wr (w.heap.size + 1) bs p1 s1 1 h hl (by omega) hby (by omega) hB
    have hb2 := numS_bd (bs := bs) (st := (p1, s1)) (k := 1) (by omega) hby
    generalize numS bs (p1, s1) 1 = r2 at *
    obtain ⟨mn, p2, s2⟩ := r2
    simp only at N2 hb2 ⊢
    obtain ⟨many, rfl⟩ := Int.eq_ofNat_of_zero_le hb2.1
    simp only [Int.toNat_natCast]
    generalize hF : decFin bs.length us (decL bs (p2, s2) many []) = F
    replace hF := Lib.hid hF
    replace N1 := Lib.hid N1
    replace N2 := Lib.hid N2
    obtain ⟨W2, hW2⟩ : ∃ W2 : World, W2 = (w.alloc (.cells #[.int .i64 0, .slice none 0 0] 24)).alloc (.cells #[.slice A bs.length c, .bool false] 75) := ⟨_, rfl⟩
    have hres : Blk W2 w.heap.size [.int .i64 0, .slice none 0 0] := by rw [hW2]; exact (Blk.made w _ _).alloc _
    have hrd : Rdr w W2 (w.heap.size + 1) bs 0 false := ⟨A, c, by rw [hW2]; exact Blk.made_at _ _ _ (by simp), by simpa using hr, by omega, Nat.zero_le _⟩
    have hB0 : Below w.heap.size w W2 := by rw [hW2]; exact (by repeat (first | exact Below.refl _ _ | apply below_alloc | apply pw_below_drewN | apply below_drew1 | (refine Below.setCell ?_ (by first | (simp; done) | (simp; omega) | omega) _) ))
    have hz0 : W2.heap.size = w.heap.size + 2 := by rw [hW2]; simp
    replace hW2 := Lib.hid hW2
    go_enter Tryd.func18, Tryd.ntmps18
    go_wp2_with fail
    rw [← hW2.out]
    refine (N1.out _ hrd hB0).mono ?_
    rintro e w1 ⟨rfl, hrd1, hg1⟩
    have hB1 := hB0.grown hg1 hB0.size (fun z hz => by have := Option.some.inj hz; omega)
    have hres1 := hres.grown hg1 (by intro h; have := Option.some.inj h; omega)
    have hz1 := hg1.size
    have hz3 : w1.heap.size = w.heap.size + 2 ∨ w.heap.size + 2 ≤ w1.heap.size := by omega
    obtain ⟨Wa, hWa⟩ : ∃ Wa : World, Wa = w1.alloc (.cells #[.int .i64 us, .slice none 0 0] 24) := ⟨_, rfl⟩
    have hzb := hrd1.lt
    have hresA : Blk Wa w.heap.size [.int .i64 0, .slice none 0 0] := by rw [hWa]; exact hres1.alloc _
    have hrdA : Rdr w Wa (w.heap.size + 1) bs p1 s1 := by rw [hWa]; exact hrd1.alloc _
    have hoA : Blk Wa w1.heap.size [.int .i64 us, .slice none 0 0] := by rw [hWa]; exact Blk.made w1 _ _
    have hBA : Below w.heap.size w Wa := by rw [hWa]; exact below_alloc' hB1 (by omega) _
    have hzA : Wa.heap.size = w1.heap.size + 1 := by rw [hWa]; simp
    replace hWa := Lib.hid hWa
    clear hres1 hrd1 hres hrd hB0
    go_wp2_with fail
    rw [← hWa.out]
    refine (N2.out _ hrdA hBA).mono ?_
    rintro e w2 ⟨rfl, hrd2, hg2⟩
    have hB2 := hBA.grown hg2 hBA.size (fun z hz => by have := Option.some.inj hz; omega)
    have hres2 := hresA.grown hg2 (by intro h; have := Option.some.inj h; omega)
    have ho2 := hoA.grown hg2 (by intro h; have := Option.some.inj h; omega)
    have hz2 := hg2.size
    generalize w1.heap.size = o at *
    clear hresA hrdA hoA hBA
    go_wp2_with fail
    go_loopw [] (fun wr => ∃ (p : Nat) (sh : Bool) (acc : List AEntry) (v : Value), Rdr w wr (w.heap.size + 1) bs p sh ∧ Blk wr w.heap.size [.int .i64 0, .slice none 0 0] ∧ Blk wr o [.int .i64 us, v] ∧ Kd.R kAEntry 60 wr (o + 1) (fun _ => True) v acc ∧ acc.length ≤ many ∧ (∀ x ∈ acc, okE x) ∧ decFin bs.length us (decL bs (p, sh) many acc) = F ∧ Below w.heap.size w wr ∧ o < wr.heap.size) (fun wr => many - sliceLen (wr.cell? ⟨o, 1, none⟩))
    case atStart => exact ⟨p2, s2, [], .slice none 0 0, hrd2, hres2, ho2, Kd.R_nil _ _ _ _ _, Nat.zero_le _, (fun x hx => by cases hx), hF.out, hB2, ho2.lt⟩
    case round =>
      clear hrd2 hres2 ho2 hB2 hz2 hF
      obtain ⟨p, sh, acc, v, hrd, hres, ho, hRow, hacc, hok, hdec, hB, hzo⟩ := hrel
      obtain ⟨A0, cap0, rfl⟩ := Kd.R_slice hRow
      have hrd0 := hrd
      obtain ⟨Ar, cr, hkb, hCr, hcr, hpr⟩ := hrd0
      have m0 := ho.at 0 _ rfl
      have m1 := ho.at 1 _ rfl
      have g0 := hkb.at 0 _ rfl
      have g1 := hkb.at 1 _ rfl
      have hzr := hkb.lt
      clear hkb hCr hcr
      by_cases hgo : acc.length < many
      · have i1 : (acc.length : Int) < (many : Int) := by omega
        cases sh with
        | true =>
          rw [decL_end (fun h => by cases h.2), decFin, if_pos rfl] at hdec
          subst hdec
          have q0 := (hres).at 0 _ rfl
          have q1 := (hres).at 1 _ rfl
          have p0 := (hres).free 0 _ rfl
          have p1 := (hres).free 1 _ rfl
          go_wp2_with fail
          refine bodyPost_ret (v := .tuple #[.agg #[.int .i64 0, .slice none 0 0], .int .i64 4]) (by simp [results, Tryd.results18, go_sem, *]) rfl ?_
          exact ⟨_, rfl, Kd.R_nil _ _ _ _ _, (by repeat (first | exact Below.refl _ _ | apply below_alloc | apply pw_below_drewN | apply below_drew1 | (refine Below.setCell ?_ (by first | (simp; done) | (simp; omega) | omega) _) | exact hB))⟩
        | false =>
          rw [decL_go hgo rfl] at hdec
          have hoke := entS_ok bs (p, false) hl
          obtain ⟨⟨ek, ⟨p3, s3⟩⟩, e1⟩ : ∃ z, numS bs (p, false) 1 = z := ⟨_, rfl⟩
          obtain ⟨⟨ef, ⟨p4, s4⟩⟩, e2⟩ : ∃ z, numS bs (p3, s3) 1 = z := ⟨_, rfl⟩
          obtain ⟨⟨eu, ⟨p5, s5⟩⟩, e3⟩ : ∃ z, numS bs (p4, s4) 3 = z := ⟨_, rfl⟩
          obtain ⟨⟨eb, ⟨p6, s6⟩⟩, e4⟩ : ∃ z, txtS bs (p5, s5) = z := ⟨_, rfl⟩
          obtain ⟨⟨et, ⟨p7, s7⟩⟩, e5⟩ : ∃ z, txtS bs (p6, s6) = z := ⟨_, rfl⟩
          obtain ⟨⟨ex, ⟨p8, s8⟩⟩, e6⟩ : ∃ z, txtS bs (p7, s7) = z := ⟨_, rfl⟩
          have hent : entS bs (p, false) = (⟨ek, eb, eu, ef, et, ex⟩, (p8, s8)) := by simp only [entS, e1, e2, e3, e4, e5, e6]
          rw [hent] at hdec hoke
          simp only at hdec hoke
          clear hent
          replace hdec := Lib.hid hdec
          have K1 := number_calls w wr (w.heap.size + 1) bs p false 1 hrd hl (by omega) hby (by omega) hB
          have K2 := fun wr h hB => number_calls w wr (w.heap.size + 1) bs p3 s3 1 h hl (by omega) hby (by omega) hB
          have K3 := fun wr h hB => number_calls w wr (w.heap.size + 1) bs p4 s4 3 h hl (by omega) hby (by omega) hB
          have K4 := fun wr h hB => text_calls w wr (w.heap.size + 1) bs p5 s5 h hl hby (by omega) hB
          have K5 := fun wr h hB => text_calls w wr (w.heap.size + 1) bs p6 s6 h hl hby (by omega) hB
          have K6 := fun wr h hB => text_calls w wr (w.heap.size + 1) bs p7 s7 h hl hby (by omega) hB
          rw [e1] at K1
          rw [e2] at K2
          rw [e3] at K3
          rw [e4] at K4
          rw [e5] at K5
          rw [e6] at K6
          simp only at K1 K2 K3 K4 K5 K6
          replace K1 := Lib.hid K1
          replace K2 := Lib.hid K2
          replace K3 := Lib.hid K3
          replace K4 := Lib.hid K4
          replace K5 := Lib.hid K5
          replace K6 := Lib.hid K6
          clear e1 e2 e3 e4 e5 e6
          go_wp2_with fail
          refine K1.out.mono ?_
          rintro e w3 ⟨rfl, hrd3, hg3⟩
          have hB3 := hB.grown hg3 hB.size (fun z hz => by have := Option.some.inj hz; omega)
          go_wp2_with fail
          refine (K2.out _ hrd3 hB3).mono ?_
          rintro e w4 ⟨rfl, hrd4, hg4⟩
          have hB4 := hB3.grown hg4 hB3.size (fun z hz => by have := Option.some.inj hz; omega)
          go_wp2_with fail
          refine (K3.out _ hrd4 hB4).mono ?_
          rintro e w5 ⟨rfl, hrd5, hg5⟩
          have hB5 := hB4.grown hg5 hB4.size (fun z hz => by have := Option.some.inj hz; omega)
          have hG5 := grown_two (grown_two hg3 hg4) hg5
          have hz5 := hG5.size
          obtain ⟨Wx, hWx⟩ : ∃ Wx : World, Wx = w5.alloc (.cells #[.int .i64 ek, .string ⟨#[]⟩, .int .i64 eu, .int .i64 ef, .string ⟨#[]⟩, .string ⟨#[]⟩] 60) := ⟨_, rfl⟩
          have hGx : wr.grownBy Wx (some (w.heap.size + 1)) := by rw [hWx]; exact grown_alloc hG5 _
          have hrdx : Rdr w Wx (w.heap.size + 1) bs p5 s5 := by rw [hWx]; exact hrd5.alloc _
          have hX : Blk Wx w5.heap.size [.int .i64 ek, .string ⟨#[]⟩, .int .i64 eu, .int .i64 ef, .string ⟨#[]⟩, .string ⟨#[]⟩] := by rw [hWx]; exact Blk.made w5 _ _
          have hBx : Below w.heap.size w Wx := by rw [hWx]; exact below_alloc' hB5 (by omega) _
          replace hWx := Lib.hid hWx
          clear hrd3 hrd4 hrd5 hB3 hB4 hB5 hg3 hg4 hg5
          go_wp2_with fail
          rw [← hWx.out]
          refine (K4.out _ hrdx hBx).mono ?_
          rintro e w6 ⟨rfl, hrd6, hg6⟩
          have hB6 := hBx.grown hg6 hBx.size (fun z hz => by have := Option.some.inj hz; omega)
          go_wp2_with fail
          refine (K5.out _ hrd6 hB6).mono ?_
          rintro e w7 ⟨rfl, hrd7, hg7⟩
          have hB7 := hB6.grown hg7 hB6.size (fun z hz => by have := Option.some.inj hz; omega)
          go_wp2_with fail
          refine (K6.out _ hrd7 hB7).mono ?_
          rintro e w8 ⟨rfl, hrd8, hg8⟩
          have hB8 := hB7.grown hg8 hB7.size (fun z hz => by have := Option.some.inj hz; omega)
          have hgx := grown_two (grown_two hg6 hg7) hg8
          have hX8 := hX.grown hgx (by intro h; have := Option.some.inj h; omega)
          have hG8 := grown_two hGx hgx
          have hz8 := hX8.lt
          generalize hxb : w5.heap.size = xb at *
          clear hxb hX hgx hg6 hg7 hg8 hGx hG5 hrd6 hrd7 hrdx hB6 hB7 hBx hrd
          have x0 := hX8.at 0 _ rfl
          have x1 := hX8.at 1 _ rfl
          have x2 := hX8.at 2 _ rfl
          have x3 := hX8.at 3 _ rfl
          have x4 := hX8.at 4 _ rfl
          have x5 := hX8.at 5 _ rfl
          have y1 := hX8.free 1 _ rfl
          have y4 := hX8.free 4 _ rfl
          have y5 := hX8.free 5 _ rfl
          have hGs := grown_new (grown_new (grown_new hG8 (show wr.heap.size ≤ xb by omega) 1 (.string eb)) (show wr.heap.size ≤ xb by omega) 4 (.string et)) (show wr.heap.size ≤ xb by omega) 5 (.string ex)
          have hos := ho.grown hGs (by intro h; have := Option.some.inj h; omega)
          have hress := hres.grown hGs (by intro h; have := Option.some.inj h; omega)
          have hRs := R_grownE hRow hGs (by omega)
          have hrds := ((hrd8.other (j := 1) (show xb ≠ w.heap.size + 1 by omega) (.string eb)).other (j := 4) (show xb ≠ w.heap.size + 1 by omega) (.string et)).other (j := 5) (show xb ≠ w.heap.size + 1 by omega) (.string ex)
          have hBs := hB.grown hGs hB.size (fun z hz => by have := Option.some.inj hz; omega)
          have hzs := hGs.size
          have m1' := hos.at 1 _ rfl
          have hl1 := Lib.hid (show (acc ++ [(⟨ek, eb, eu, ef, et, ex⟩ : AEntry)]).length = acc.length + 1 by rw [List.length_append]; rfl)
          have hzo' : o ≠ w.heap.size + 1 := by omega
          have hzo2 : o ≠ w.heap.size := by omega
          go_wp2_with (at_builtin; refine snoc_list rowAEntry (o + 1) rfl _ _ rfl (.slice A0 acc.length cap0) acc ⟨ek, eb, eu, ef, et, ex⟩ [.int .i64 ek, .string eb, .int .i64 eu, .int .i64 ef, .string et, .string ex] rfl (by simp [Act.eval]) rfl hRs (by omega) (by omega) ?_; intro v9 w9 hR9 hb9 hg9; obtain ⟨A9, c9, rfl⟩ := Kd.R_slice hR9; rw [hl1.out] at hR9 ⊢; have ho9 := hos.below hb9 (by omega); have m9 := ho9.at 1 _ rfl; have f9 := ho9.free 1 _ rfl)
          go_roundw
          case rel => exact ⟨p8, s8, _, _, (hrds.below hb9 (by omega)).other hzo' _, (hress.below hb9 (by omega)).other hzo2 _, ho9.set 1 _ (by simp), R_elder hR9 (by simp) _, by rw [hl1.out]; omega, (fun x hx => by
            rcases List.mem_append.1 hx with h | h
            · exact hok x h
            · rw [List.mem_singleton.1 h]; exact hoke), hdec.out, Below.setCell (hBs.trans (hb9.mono (by omega))) (show w.heap.size ≤ o by omega) _, by have := ho9.lt; simpa using this⟩
          case measure =>
            rw [(ho9.set 1 (.slice A9 (acc.length + 1) c9) (by simp)).at 1 _ rfl, m1]
            simp only [sliceLen]; omega
      · have i1 : ¬ (acc.length : Int) < (many : Int) := by omega
        rw [decL_end (fun h => hgo h.1), decFin] at hdec
        simp only at hdec
        cases sh with
        | true =>
          rw [if_pos rfl] at hdec
          subst hdec
          have q0 := (hres).at 0 _ rfl
          have q1 := (hres).at 1 _ rfl
          have p0 := (hres).free 0 _ rfl
          have p1 := (hres).free 1 _ rfl
          go_wp2_with fail
          refine bodyPost_ret (v := .tuple #[.agg #[.int .i64 0, .slice none 0 0], .int .i64 4]) (by simp [results, Tryd.results18, go_sem, *]) rfl ?_
          exact ⟨_, rfl, Kd.R_nil _ _ _ _ _, (by repeat (first | exact Below.refl _ _ | apply below_alloc | apply pw_below_drewN | apply below_drew1 | (refine Below.setCell ?_ (by first | (simp; done) | (simp; omega) | omega) _) | exact hB))⟩
        | false =>
          rw [if_neg (by decide)] at hdec
          by_cases hlt : p < bs.length
          · rw [if_pos hlt] at hdec
            subst hdec
            have i2 : (0 : Int) < ((bs.length - p : Nat) : Int) := by omega
            have q0 := (hres).at 0 _ rfl
            have q1 := (hres).at 1 _ rfl
            have p0 := (hres).free 0 _ rfl
            have p1 := (hres).free 1 _ rfl
            generalize bs.length - p = rest at *
            go_wp2_with fail
            refine bodyPost_ret (v := .tuple #[.agg #[.int .i64 0, .slice none 0 0], .int .i64 3]) (by simp [results, Tryd.results18, go_sem, *]) rfl ?_
            exact ⟨_, rfl, Kd.R_nil _ _ _ _ _, (by repeat (first | exact Below.refl _ _ | apply below_alloc | apply pw_below_drewN | apply below_drew1 | (refine Below.setCell ?_ (by first | (simp; done) | (simp; omega) | omega) _) | exact hB))⟩
          · rw [if_neg hlt] at hdec
            have i2 : ¬ (0 : Int) < ((bs.length - p : Nat) : Int) := by omega
            have HC := bookCheck_calls us A0 cap0 acc m wr (C_ofR hRow) hok (cell_below hB hm hg) (by omega)
            generalize bs.length - p = rest at *
            by_cases hf : batchFault us acc = 0
            · rw [if_pos hf] at hdec
              rw [hf] at HC
              subst hdec
              clear hf
              replace HC := Lib.hid HC
              go_wp2_with fail
              refine HC.out.mono ?_
              rintro e w9 ⟨rfl, hb9⟩
              have hres9 := hres.below hb9 (by omega)
              have ho9 := ho.below hb9 hzo
              have hR9 := Kd.R_below hRow hb9
              have hB9 := hB.trans (hb9.mono (by omega))
              have t0 := ho9.at 0 _ rfl
              have t1 := ho9.at 1 _ rfl
              have q0 := (hres9).at 0 _ rfl
              have q1 := (hres9).at 1 _ rfl
              have p0 := (hres9).free 0 _ rfl
              have p1 := (hres9).free 1 _ rfl
              have n1 : ¬ w.heap.size = o := by omega
              have n2 : ¬ o = w.heap.size := by omega
              go_wp2_with fail
              refine bodyPost_ret (v := .tuple #[.agg #[.int .i64 us, .slice A0 acc.length cap0], .int .i64 0]) (by simp [results, Tryd.results18, go_sem, *]) rfl ?_
              exact ⟨_, rfl, Kd.R_lower (R_elder (p := ⟨w.heap.size, 1, none⟩) (R_elder (p := ⟨w.heap.size, 0, none⟩) hR9 (show w.heap.size < o + 1 by omega) _) (show w.heap.size < o + 1 by omega) _) (by omega), (by repeat (first | exact Below.refl _ _ | apply below_alloc | apply pw_below_drewN | apply below_drew1 | (refine Below.setCell ?_ (by first | (simp; done) | (simp; omega) | omega) _) | exact hB9))⟩
            · rw [if_neg hf] at hdec
              generalize batchFault us acc = f at *
              have hfb : (f != 0) = true := by simp [hf]
              subst hdec
              clear hf
              replace HC := Lib.hid HC
              go_wp2_with fail
              refine HC.out.mono ?_
              rintro e w9 ⟨rfl, hb9⟩
              have hres9 := hres.below hb9 (by omega)
              have hB9 := hB.trans (hb9.mono (by omega))
              have q0 := (hres9).at 0 _ rfl
              have q1 := (hres9).at 1 _ rfl
              have p0 := (hres9).free 0 _ rfl
              have p1 := (hres9).free 1 _ rfl
              go_wp2_with fail
              refine bodyPost_ret (v := .tuple #[.agg #[.int .i64 0, .slice none 0 0], .int .i64 f]) (by simp [results, Tryd.results18, go_sem, *]) rfl ?_
              exact ⟨_, rfl, Kd.R_nil _ _ _ _ _, (by repeat (first | exact Below.refl _ _ | apply below_alloc | apply pw_below_drewN | apply below_drew1 | (refine Below.setCell ?_ (by first | (simp; done) | (simp; omega) | omega) _) | exact hB9))⟩
end Go.Proofs.YtdffojjimoilgaaDoor.H
