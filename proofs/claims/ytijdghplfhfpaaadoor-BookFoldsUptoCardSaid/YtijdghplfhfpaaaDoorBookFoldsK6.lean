/- The claim BookFoldsUptoCardSaid, part 6 of 7. -/
import Derived.Test.YtijdghplfhfpaaaDoorBookFoldsK5
import Derived.Test.YtijdghplfhfpaaaDoorBookFoldsK2
import Derived.Test.YtijdghplfhfpaaaDoorBookFoldsK3
import Derived.Deep.QuietTactic
import Derived.Test.YtijdghplfhfpaaaDoorBookFoldsK4
/- Boxes: the reference's entered: Flag, Copy; the whole. -/
namespace Go.Proofs.YtijdghplfhfpaaaDoor.H
open Go.RowKit Go.Proofs.YtijdghplfhfpaaaDoorW.PrintWords Go.Proofs.YtijdghplfhfpaaaDoorW.PrintLast Go.Proofs.YtijdghplfhfpaaaDoor.U
set_option linter.unusedVariables false
set_option linter.unusedSimpArgs false
set_option maxHeartbeats 2000000 in
set_option maxRecDepth 100000 in
theorem entered_flag (Z : Nat → Prop) (i j : Nat) (bx : ByteArray) (u f : Int) (to_ tx : ByteArray) (A : Option Addr) (c : Nat) (bs : List ABox) (A2 : Option Addr) (c2 : Nat) (es : List AEntry) (w : World) (hrd : Rd Z w A bs A2 es) (hZ : ∀ k, Z k → k < w.heap.size) (hc : bs.length ≤ c) (hinv : InvS bs es) (hfi : findG bx bs 0 = (i : Int)) (hi : i < bs.length) (hfk : findU u (mailsAt bs i) 0 = (j : Int)) (hj : j < (mailsAt bs i).length) :
    Calls Tryd.prog 57 #[.agg #[.slice A bs.length c, .slice A2 es.length c2], .agg #[.int .i64 3, .string bx, .int .i64 u, .int .i64 f, .string to_, .string tx]] w (PostSt Z w (entV bs es ⟨3, bx, u, f, to_, tx⟩)) := by
  obtain ⟨hr, hr2⟩ := hrd.now
  obtain ⟨nm, nx, l, hb⟩ : ∃ nm nx l, bs[i] = (nm, nx, l) := ⟨_, _, _, rfl⟩
  have hgd : GoodB (nm, nx, l) := by rw [← hb]; exact hinv.2.2 _ (List.getElem_mem hi)
  obtain ⟨g1, g2, g3, g4, g5⟩ := hgd
  simp only at g1 g2 g3 g4 g5
  have hfl : ∀ m ∈ l, 0 ≤ m.flags ∧ m.flags ≤ 31 := fun m hm => by obtain ⟨_, _, a, b, _⟩ := mails_mem _ _ g5 m hm; exact ⟨a, b⟩
  have i0 : (0 : Int) ≤ (i : Int) := by omega
  have i1 : ¬ (i : Int) < 0 := by omega
  have i2 : (i : Int) < (bs.length : Int) := by omega
  obtain ⟨ad, Ae, ce, e1, b0, b1, b2, hC⟩ := box_at hr i hi
  subst e1
  rw [add1] at b1
  rw [add2] at b2
  rw [hb] at b0 b1 b2 hC
  simp only at b0 b1 b2 hC
  rw [mailsAt_of hi hb] at hfk hj
  obtain ⟨mm, hmm⟩ : ∃ mm, l[j] = mm := ⟨_, rfl⟩
  have hmv : mailV bs i ⟨3, bx, u, f, to_, tx⟩ = (0, bs.set i (nm, nx, l.set j ⟨mm.uid, f, mm.text⟩)) := by
    rw [← putMails_of hi hb, mailV, if_neg (by show ¬ ((3 : Int) = 2); decide), if_neg (by show ¬ ((3 : Int) = 4); decide), mailsAt_of hi hb]
    simp only [hfk]
    rw [if_neg (by omega), if_pos trivial, Int.toNat_natCast, flagsAt, List.getElem?_eq_getElem hj, hmm]
  rw [entV_mail (x := ⟨3, bx, u, f, to_, tx⟩) (by show ¬ ((3 : Int) = 6); decide) (by show ¬ ((3 : Int) = 1); decide) hfi, hmv]
  replace hmm := Lib.hid hmm
  clear hmv
  replace hfk := Lib.hid hfk
  obtain ⟨W3, hW3⟩ : ∃ W3 : World, W3 = ((w.alloc (.cells #[.slice (some ad) bs.length c, .slice A2 es.length c2] 25)).alloc (.cells #[.int .i64 3, .string bx, .int .i64 u, .int .i64 f, .string to_, .string tx] 40)).alloc (.cells #[.slice none 0 0, .slice none 0 0] 25) := ⟨_, rfl⟩
  have hP0 : Blk W3 w.heap.size [.slice (some ad) bs.length c, .slice A2 es.length c2] := by rw [hW3]; exact ((Blk.made w _ _).alloc _).alloc _
  have hX0 : Blk W3 (w.heap.size + 1) [.int .i64 3, .string bx, .int .i64 u, .int .i64 f, .string to_, .string tx] := by rw [hW3]; exact (Blk.made_at _ _ _ (by simp)).alloc _
  have hQ0 : Blk W3 (w.heap.size + 1 + 1) [.slice none 0 0, .slice none 0 0] := by rw [hW3]; exact Blk.made_at _ _ _ (by simp)
  have hB0 : Below w.heap.size w W3 := by rw [hW3]; exact (by repeat (first | exact Below.refl _ _ | apply below_alloc | apply pw_below_drewN | apply below_drew1 | (refine Below.setCell ?_ (by first | (simp; done) | (simp; omega) | omega) _) ))
  have hz0 : W3.heap.size = w.heap.size + 1 + 1 + 1 := by rw [hW3]; simp
  replace hW3 := Lib.hid hW3
  have hi1 := hinv.1
  have hi2 := hinv.2.1
  have hb30 : ∀ b ∈ bs, b.2.2.length ≤ 1048576 := fun b hb => by have := (hinv.2.2 b hb).2.2.2.1; omega
  have HSC := Lib.hid (stateCopy_calls (some ad) c bs A2 c2 es W3 (Kd.C_below hr hB0) (Kd.C_below hr2 hB0) (by omega) (by omega) hb30)
  have HF := fun W hr => boxOf_calls (some ad) c bs bx W hr
  simp only [hfi] at HF
  replace HF := Lib.hid HF
  clear hfi
  go_enter Tryd.func57, Tryd.ntmps57
  go_wp2_with fail
  rw [← hW3.out]
  refine HSC.out.mono ?_
  rintro e w3 ⟨vB, vS, rfl, hS3, hE3, hb3⟩
  obtain ⟨Ab, cb, rfl⟩ := Kd.S_slice hS3
  obtain ⟨As, cs, rfl⟩ := Kd.R_slice hE3
  have hz3 := hb3.size
  obtain ⟨pb, hpbe⟩ : ∃ pb, pb = w3.heap.size := ⟨_, rfl⟩
  obtain ⟨base, hbe⟩ : ∃ base, base = W3.heap.size := ⟨_, rfl⟩
  obtain ⟨w5, hW5⟩ : ∃ w5 : World, w5 = w3.alloc (.cells #[.slice Ab bs.length cb, .slice As es.length cs] 25) := ⟨_, rfl⟩
  have hP5 : Blk w5 w.heap.size [.slice (some ad) bs.length c, .slice A2 es.length c2] := by rw [hW5]; exact (hP0.below hb3 (by omega)).alloc _
  have hX5 : Blk w5 (w.heap.size + 1) [.int .i64 3, .string bx, .int .i64 u, .int .i64 f, .string to_, .string tx] := by rw [hW5]; exact (hX0.below hb3 (by omega)).alloc _
  have hQ5 : Blk w5 (w.heap.size + 1 + 1) [.slice none 0 0, .slice none 0 0] := by rw [hW5]; exact (hQ0.below hb3 (by omega)).alloc _
  have hk5 : Blk w5 pb [.slice Ab bs.length cb, .slice As es.length cs] := by rw [hW5, hpbe]; exact Blk.made _ _ _
  have hB5 : Below w.heap.size w w5 := by rw [hW5]; exact below_alloc' (hB0.trans (hb3.mono (by omega))) (by omega) _
  have hS5 : Kd.S kBox 77 w5 base (fun k => k ≠ pb) (.slice Ab bs.length cb) bs := by rw [hW5, hbe, hpbe]; exact Kd.S_mono (Kd.S_below (Kd.S_bound hS3) (by repeat (first | exact Below.refl _ _ | apply below_alloc | apply pw_below_drewN | apply below_drew1 | (refine Below.setCell ?_ (by first | (simp; done) | (simp; omega) | omega) _) ))) (fun k hk => by have := hk.2.2.1; show k ≠ _; omega)
  have hE5 : Kd.R kAEntry 40 w5 base (fun k => k ≠ pb) (.slice As es.length cs) es := by rw [hW5, hbe, hpbe]; exact Kd.R_mono (Kd.R_below (Kd.R_bound hE3) (by repeat (first | exact Below.refl _ _ | apply below_alloc | apply pw_below_drewN | apply below_drew1 | (refine Below.setCell ?_ (by first | (simp; done) | (simp; omega) | omega) _) ))) (fun k hk => by have := hk.2.2.1; show k ≠ _; omega)
  have hp : base ≤ pb := by omega
  have hbw : w.heap.size + 1 + 1 < base := by omega
  have hC5 := Kd.C_below hr hB5
  have hz5k := hk5.lt
  have hz5p := hP5.lt
  have hz5x := hX5.lt
  have hz5q := hQ5.lt
  have p0 := (hP0.below hb3 (by omega)).at 0 _ rfl
  have x1 := (hX0.below hb3 (by omega)).at 1 _ rfl
  have hlt1 : w.heap.size < w3.heap.size := by omega
  have hlt2 : w.heap.size + 1 < w3.heap.size := by omega
  replace hW5 := Lib.hid hW5
  replace hpbe := Lib.hid hpbe
  clear hP0 hX0 hQ0 hB0 hb3 hS3 hE3 hbe hz0 hz3 hW3 HSC
  go_wp2_with fail
  rw [← hW5.out, ← hpbe.out]
  clear p0 x1 hlt1 hlt2
  have p0 := hP5.at 0 _ rfl
  have p1 := hP5.at 1 _ rfl
  have x0 := hX5.at 0 _ rfl
  have x1 := hX5.at 1 _ rfl
  have x2 := hX5.at 2 _ rfl
  have x3 := hX5.at 3 _ rfl
  have x4 := hX5.at 4 _ rfl
  have x5 := hX5.at 5 _ rfl
  have k0 := hk5.at 0 _ rfl
  have k1 := hk5.at 1 _ rfl
  refine (HF.out _ hC5).mono ?_
  rintro e w' ⟨rfl, rfl⟩
  have hadw : (ad.add (i * 3)).block < w.heap.size := lt_of_cell' b0
  have hzw : w.heap.size ≤ w5.heap.size := hB5.size
  have hCl : Kd.C kAMail w5 Ae l.length l := Kd.C_below hC hB5
  have b5 := (hB5.cell (p := ⟨(ad.add (i * 3)).block, (ad.add (i * 3)).off + 2, none⟩) hadw).trans b2
  have hl63 := hC.2.1
  clear b0 b1 k0 k1
  go_wp2_with fail
  go_loopw [10, 11, 12] (fun vK av iv wr => ∃ k : Nat, k ≤ l.length ∧ iv = .int .i64 k ∧ av = .int .i64 (findU u (l.take k) 0) ∧ Kd.R kAMail 84 wr w5.heap.size (fun _ => True) vK ((l.take k).filter keepM) ∧ Below w5.heap.size w5 wr) (fun _ _ iv _ => l.length - (intOf iv).toNat)
  case atStart => exact ⟨0, Nat.zero_le _, rfl, rfl, Kd.R_nil _ _ _ _ _, Below.refl _ _⟩
  case round =>
    obtain ⟨k, hk, rfl, rfl, hK, hBk⟩ := hrel
    obtain ⟨vK, hvK⟩ : ∃ vK, vK = u10 := ⟨_, rfl⟩
    rw [← hvK] at hK ⊢
    clear hvK
    have p0k := (hBk.cell (p := ⟨w.heap.size, 0, none⟩) hz5p).trans p0
    have x0k := (hBk.cell (p := ⟨w.heap.size + 1, 0, none⟩) hz5x).trans x0
    have x2k := (hBk.cell (p := ⟨w.heap.size + 1, 2, none⟩) hz5x).trans x2
    have b2k := (hBk.cell (p := ⟨(ad.add (i * 3)).block, (ad.add (i * 3)).off + 2, none⟩) (by show (ad.add (i * 3)).block < w5.heap.size; omega)).trans b5
    have hzk := hBk.size
    have hpk : w.heap.size < wr.heap.size := by omega
    have hxk : w.heap.size + 1 < wr.heap.size := by omega
    have hak : (ad.add (i * 3)).block < wr.heap.size := by omega
    by_cases hlt : k < l.length
    · obtain ⟨ad2, e2, hx0, hxj⟩ := flat_at (Kd.C_below hCl hBk) k hlt
      subst e2
      have m0 := hx0 _ rfl; have m1 := hxj 1 _ (by decide) rfl; have m2 := hxj 2 _ (by decide) rfl
      clear hx0 hxj
      have hts := Lib.hid (findU_step (u := u) hlt g5)
      have htf := Lib.hid (filter_step keepM hlt)
      have hfx := hfl _ (List.getElem_mem hlt)
      have hlk : ((l.take k).filter keepM).length ≤ k := Nat.le_trans (List.length_filter_le _ _) (List.length_take_le _ _)
      have k0 : (0 : Int) ≤ (k : Int) := by omega
      have k1 : (k : Int) < (l.length : Int) := by omega
      have hkeep : keepM l[k] = decide (l[k].flags / 8 % 2 = 0) := rfl
      generalize l[k] = x at *
      generalize findU u (l.take k) 0 = fu at *
      obtain ⟨A5, c5, rfl⟩ := Kd.R_slice hK
      generalize hkl : (l.take k).filter keepM = kl at *
      have d1 : Int.tdiv x.flags 8 = x.flags / 8 := Int.tdiv_eq_ediv_of_nonneg hfx.1
      have hT := Blk.made wr #[.int .i64 x.uid, .int .i64 x.flags, .string x.text] 84
      have hKa := Kd.R_below hK (show Below wr.heap.size wr (wr.alloc (.cells #[.int .i64 x.uid, .int .i64 x.flags, .string x.text] 84)) from (by repeat (first | exact Below.refl _ _ | apply below_alloc | apply pw_below_drewN | apply below_drew1 | (refine Below.setCell ?_ (by first | (simp; done) | (simp; omega) | omega) _) )))
      have hno : some wr.heap.size ≠ (Value.slice A5 kl.length c5).ownBlock := fun he => by have := Kd.R_lt hK _ he.symm; omega
      by_cases hu : x.uid = u
      · have hub : (x.uid == u) = true := by simp [hu]
        have hfu : findU u (l.take (k + 1)) 0 = (k : Int) := by rw [hts.out, if_pos hu]
        replace hfu := Lib.hid hfu
        clear hu hts
        by_cases hkp : x.flags / 8 % 2 = 0
        · have hkk : (l.take (k + 1)).filter keepM = kl ++ [x] := by rw [htf.out, if_pos (by rw [hkeep]; exact decide_eq_true hkp)]
          replace hkk := Lib.hid hkk
          have hkb : (x.flags / 8 % 2 == 0) = true := by simp [hkp]
          clear hkeep htf hkp
          go_wp2_with (at_builtin; refine snoc_list rowAMail w5.heap.size rfl _ _ rfl (.slice A5 kl.length c5) kl x [.int .i64 x.uid, .int .i64 x.flags, .string x.text] (by first | rfl | (simp [Act.eval]; done)) (by first | rfl | (simp [Act.eval]; done)) rfl hKa (by simp; omega) (by omega) ?_)
          intro v1 w6 hR6 hb6 hg6
          have hT6 := hT.grown hg6 hno
          have y0 := hT6.at 0 _ rfl
          have hz6 := hb6.size
          simp at hz6
          have x2n := (hb6.cell (p := ⟨w.heap.size + 1, 2, none⟩) hz5x).trans (cell_alloc' x2k _)
          have hB6 : Below w5.heap.size w5 w6 := Below.trans (below_alloc hBk _) hb6
          go_wp2_with fail
          go_roundw
          case rel => exact ⟨k + 1, hlt, by go_num, by rw [hfu.out], by rw [hkk.out]; exact hR6, hB6⟩
          case measure => simp [intOf]; omega
        · have hkk : (l.take (k + 1)).filter keepM = kl := by rw [htf.out, if_neg (by rw [hkeep]; simpa using hkp), List.append_nil]
          replace hkk := Lib.hid hkk
          have hkb : (x.flags / 8 % 2 == 0) = false := by simp [hkp]
          clear hkeep htf hkp
          go_wp2_with fail
          go_roundw
          case rel => exact ⟨k + 1, hlt, by go_num, by rw [hfu.out], by rw [hkk.out]; exact hKa, below_alloc hBk _⟩
          case measure => simp [intOf]; omega
      · have hub : (x.uid == u) = false := by simp [hu]
        have hfu : findU u (l.take (k + 1)) 0 = fu := by rw [hts.out, if_neg hu]
        replace hfu := Lib.hid hfu
        clear hu hts
        by_cases hkp : x.flags / 8 % 2 = 0
        · have hkk : (l.take (k + 1)).filter keepM = kl ++ [x] := by rw [htf.out, if_pos (by rw [hkeep]; exact decide_eq_true hkp)]
          replace hkk := Lib.hid hkk
          have hkb : (x.flags / 8 % 2 == 0) = true := by simp [hkp]
          clear hkeep htf hkp
          go_wp2_with (at_builtin; refine snoc_list rowAMail w5.heap.size rfl _ _ rfl (.slice A5 kl.length c5) kl x [.int .i64 x.uid, .int .i64 x.flags, .string x.text] (by first | rfl | (simp [Act.eval]; done)) (by first | rfl | (simp [Act.eval]; done)) rfl hKa (by simp; omega) (by omega) ?_)
          intro v1 w6 hR6 hb6 hg6
          have hT6 := hT.grown hg6 hno
          have y0 := hT6.at 0 _ rfl
          have hz6 := hb6.size
          simp at hz6
          have x2n := (hb6.cell (p := ⟨w.heap.size + 1, 2, none⟩) hz5x).trans (cell_alloc' x2k _)
          have hB6 : Below w5.heap.size w5 w6 := Below.trans (below_alloc hBk _) hb6
          go_wp2_with fail
          go_roundw
          case rel => exact ⟨k + 1, hlt, by go_num, by rw [hfu.out], by rw [hkk.out]; exact hR6, hB6⟩
          case measure => simp [intOf]; omega
        · have hkk : (l.take (k + 1)).filter keepM = kl := by rw [htf.out, if_neg (by rw [hkeep]; simpa using hkp), List.append_nil]
          replace hkk := Lib.hid hkk
          have hkb : (x.flags / 8 % 2 == 0) = false := by simp [hkp]
          clear hkeep htf hkp
          go_wp2_with fail
          go_roundw
          case rel => exact ⟨k + 1, hlt, by go_num, by rw [hfu.out], by rw [hkk.out]; exact hKa, below_alloc hBk _⟩
          case measure => simp [intOf]; omega
    · obtain rfl : k = l.length := by omega
      rw [List.take_length] at hK ⊢
      have k1 : ¬ (l.length : Int) < (l.length : Int) := by omega
      skip
      have hQk := hQ5.below hBk hz5q
      have hBB := hB5.trans (hBk.mono hzw)
      have p1k := (hBk.cell (p := ⟨w.heap.size, 1, none⟩) hz5p).trans p1
      have x1k := (hBk.cell (p := ⟨w.heap.size + 1, 1, none⟩) hz5x).trans x1
      have x3k := (hBk.cell (p := ⟨w.heap.size + 1, 3, none⟩) hz5x).trans x3
      have x4k := (hBk.cell (p := ⟨w.heap.size + 1, 4, none⟩) hz5x).trans x4
      have hlz := hQk.lt
      rw [hfk.out]
      obtain ⟨ad2, e2, hx0, hxj⟩ := flat_at (Kd.C_below hCl hBk) j hj
      subst e2
      rw [hmm.out] at hx0 hxj
      have m0 := hx0 _ rfl; have m1 := hxj 1 _ (by decide) rfl; have m2 := hxj 2 _ (by decide) rfl
      clear hx0 hxj
      obtain ⟨g, cap, hAc, hgb, hgl, cells, hgc⟩ := Kd.S_form hS5 (by omega)
      injection hAc with hAc1 _ hAc2
      subst hAc1
      subst hAc2
      obtain ⟨oki, vM, y0, y1, y2, f1, f2, hR, hoki, hH⟩ := box_lend hS5 hi hb
      obtain ⟨Am, cm, rfl⟩ := Kd.R_slice hR
      have hng : g ≠ pb := fun he => (Kd.S_R hS5).1 g (by simp [Value.ownBlock]) he
      have hng2 : pb ≠ g := Ne.symm hng
      have ea : (⟨g, 0, none⟩ : Addr).add (i * 3) = ⟨g, i * 3, none⟩ := add_plain _ _
      have hgo : some g ≠ (Value.slice Am l.length cm).ownBlock := fun he => (hoki g (hR.1 g he.symm)).2 rfl
      have hpo : some pb ≠ (Value.slice Am l.length cm).ownBlock := fun he => (hoki pb (hR.1 pb he.symm)).1 rfl
      have k0k := (hBk.cell (p := ⟨pb, 0, none⟩) hz5k).trans (hk5.at 0 _ rfl)
      have k1k := (hBk.cell (p := ⟨pb, 1, none⟩) hz5k).trans (hk5.at 1 _ rfl)
      have y2k := (hBk.cell (p := ⟨g, i * 3 + 2, none⟩) hgl).trans y2
      have f2k := (hBk.frozen (p := ⟨g, i * 3 + 2, none⟩) hgl).trans f2
      have hkk := hk5.below hBk hz5k
      have hQk := hQ5.below hBk hz5q
      have hXk := hX5.below hBk hz5x
      have hEk := Kd.R_below hE5 hBk
      have hBB := hB5.trans (hBk.mono hzw)
      obtain ⟨gm, cm', hAm, hmb, hml, mc, hmt⟩ := Kd.R_form hR (by omega)
      injection hAm with hAm1 _ hAm2
      subst hAm1
      subst hAm2
      have hRk := Kd.R_below hR hBk
      have hHk := Kd.H_below hH hBk
      have n1 : pb ≠ gm := fun he => hpo (by rw [he]; rfl)
      have n2 : g ≠ gm := fun he => hgo (by rw [he]; rfl)
      have n3 : w.heap.size + 1 ≠ gm := by omega
      have n4 : w.heap.size + 1 + 1 ≠ gm := by omega
      have e2 : (⟨gm, 0, none⟩ : Addr).add (j * 3) = ⟨gm, j * 3, none⟩ := add_plain _ _
      obtain ⟨Wn, hWm⟩ : ∃ Wn : World, Wn = wr.alloc (.cells #[.int .i64 mm.uid, .int .i64 mm.flags, .string mm.text] 84) := ⟨_, rfl⟩
      have hbm : Below wr.heap.size wr Wn.drew := by rw [hWm]; exact (by repeat (first | exact Below.refl _ _ | apply below_alloc | apply pw_below_drewN | apply below_drew1 | (refine Below.setCell ?_ (by first | (simp; done) | (simp; omega) | omega) _) ))
      have z0 : Wn.drew.cell? ⟨pb, 0, none⟩ = some (.slice (some ⟨g, 0, none⟩) bs.length cb) := (hkk.below hbm hkk.lt).at 0 _ rfl
      have z1 : Wn.drew.cell? ⟨pb, 1, none⟩ = some (.slice As es.length cs) := (hkk.below hbm hkk.lt).at 1 _ rfl
      have z2 := (hbm.cell (p := ⟨g, i * 3 + 2, none⟩) (show g < wr.heap.size from Nat.lt_of_lt_of_le hgl hBk.size)).trans y2k
      have z3 := (hXk.below hbm hXk.lt).at 3 _ rfl
      have hRm := Kd.R_below hRk hbm
      obtain ⟨_, hcapm, _⟩ := Kd.R_reads' hRm
      obtain ⟨⟨uo, zo⟩, zf⟩ := row_cells hRm (j * 3 + 1) (by omega)
      have hgr : Wn.drew.grownBy (Wn.drew.setCell ⟨gm, j * 3 + 1, none⟩ (.int .i64 f)) (some gm) := grown_set (World.grownBy.refl _ _) _ _
      have hS7 := box_back (Kd.H_grown (Kd.H_below hHk hbm) hgr (fun k hk => by obtain rfl := Option.some.inj hk; exact hR.1 _ rfl)) (row_flag hRm hj hmm.out f)
      have hmt7 : Wn.drew.heap[gm]? = some (.cells mc 84 (0, 0)) := (hbm.block gm (Nat.lt_of_lt_of_le hml hBk.size)).trans ((hBk.block gm hml).trans hmt)
      have hR7 := Kd.R_mono (Kd.R_far (p := ⟨gm, j * 3 + 1, none⟩) (Kd.R_types (Kd.R_below hEk hbm) hmt7 (by decide)) (fun k hk => hk.2) (.int .i64 f)) (fun k hk => hk.1)
      have hQ7 := (hQk.below hbm hQk.lt).other (c := gm) (j := j * 3 + 1) (Ne.symm n4) (.int .i64 f)
      have hlz7 := hQ7.lt
      have z0' := cell_other' z0 (c := gm) (j := j * 3 + 1) n1 (.int .i64 f)
      have z1' := cell_other' z1 (c := gm) (j := j * 3 + 1) n1 (.int .i64 f)
      have z2' := cell_other' z2 (c := gm) (j := j * 3 + 1) n2 (.int .i64 f)
      have z3' := cell_other' z3 (c := gm) (j := j * 3 + 1) n3 (.int .i64 f)
      have hBm : Below w.heap.size w (Wn.drew.setCell ⟨gm, j * 3 + 1, none⟩ (.int .i64 f)) := Below.setCell (hBB.trans (hbm.mono (by omega))) (show w.heap.size ≤ gm by omega) _
      have hlzm : w.heap.size + 1 + 1 < Wn.drew.heap.size := by have := hbm.size; omega
      have jj0 : (0 : Int) ≤ (j : Int) := by omega
      have jj1 : ¬ (j : Int) < 0 := by omega
      have jj2 : (j : Int) < (l.length : Int) := by omega
      replace hWm := Lib.hid hWm
      clear hR hH hS5 hE5 hRk hHk hEk hmt7 hmt hgr hRm hgc
      go_wp2_with fail
      rw [← hWm.out]
      go_region_held3 (fun w' => w'.cell? ⟨pb, 0, none⟩ = some (.slice (some ⟨g, 0, none⟩) bs.length cb) ∧ w'.cell? ⟨g, i * 3 + 2, none⟩ = some (.slice (some ⟨gm, 0, none⟩) l.length cm) ∧ w'.cell? ⟨w.heap.size + 1, 3, none⟩ = some (.int .i64 f))
        (first | exact ⟨z0, z2, z3⟩ | exact ⟨z0', z2', z3'⟩ | go_keep) (fail)
      have hdr : Wn.drew.setCell ⟨gm, j * 3 + 1, none⟩ (.int .i64 f) = (Wn.setCell ⟨gm, j * 3 + 1, none⟩ (.int .i64 f)).drew := rfl
      rw [hdr] at hS7 hR7 hQ7 hBm z0' z1' hlz7
      generalize (Wn.setCell ⟨gm, j * 3 + 1, none⟩ (.int .i64 f)).drew = W7 at *
      clear hdr z2' z3'
      obtain ⟨hn1, hn2, hn3, hCo⟩ := own_out (Z := Z) hS7 hR7 (fun k hk => by have := hZ k hk; omega)
      have q0 := (hQ7).at 0 _ rfl
      have q1 := (hQ7).at 1 _ rfl
      have q2 := (hQ7).free 0 _ rfl
      have q3 := (hQ7).free 1 _ rfl
      replace hn1 := Lib.hid hn1
      replace hn3 := Lib.hid hn3
      go_wp2_with fail
      refine bodyPost_ret (v := .tuple #[.agg #[.slice ((some ⟨g, 0, none⟩)) (bs.length) cb, .slice (As) (es.length) cs], .int .i64 0]) (by simp [results, Tryd.results57, go_sem, *]) rfl ?_
      exact ⟨(some ⟨g, 0, none⟩), cb, As, cs, by simp, by first | exact hn2 | (rw [← hn1.out]; exact hn2) | (simp; omega), hCo _ (by omega) _ _, (by repeat (first | exact Below.refl _ _ | apply below_alloc | apply pw_below_drewN | apply below_drew1 | (refine Below.setCell ?_ (by first | (simp; done) | (simp; omega) | omega) _) | exact hBm))⟩
end Go.Proofs.YtijdghplfhfpaaaDoor.H

/- Boxes: the reference's entered: Copy; the whole. -/
namespace Go.Proofs.YtijdghplfhfpaaaDoor.H
open Go.RowKit Go.Proofs.YtijdghplfhfpaaaDoorW.PrintWords Go.Proofs.YtijdghplfhfpaaaDoorW.PrintLast Go.Proofs.YtijdghplfhfpaaaDoor.U
set_option linter.unusedVariables false
set_option linter.unusedSimpArgs false
set_option maxHeartbeats 2000000 in
set_option maxRecDepth 100000 in
theorem entered_copy (Z : Nat → Prop) (i j : Nat) (bx : ByteArray) (u f : Int) (to_ tx : ByteArray) (A : Option Addr) (c : Nat) (bs : List ABox) (A2 : Option Addr) (c2 : Nat) (es : List AEntry) (w : World) (hrd : Rd Z w A bs A2 es) (hZ : ∀ k, Z k → k < w.heap.size) (hc : bs.length ≤ c) (hinv : InvS bs es) (hfi : findG bx bs 0 = (i : Int)) (hi : i < bs.length) (hfk : findU u (mailsAt bs i) 0 = (j : Int)) (hj : j < (mailsAt bs i).length) (hneg : findG to_ bs 0 < 0) :
    Calls Tryd.prog 57 #[.agg #[.slice A bs.length c, .slice A2 es.length c2], .agg #[.int .i64 5, .string bx, .int .i64 u, .int .i64 f, .string to_, .string tx]] w (PostSt Z w (entV bs es ⟨5, bx, u, f, to_, tx⟩)) := by
  skip
  obtain ⟨hr, hr2⟩ := hrd.now
  obtain ⟨nm, nx, l, hb⟩ : ∃ nm nx l, bs[i] = (nm, nx, l) := ⟨_, _, _, rfl⟩
  have hgd : GoodB (nm, nx, l) := by rw [← hb]; exact hinv.2.2 _ (List.getElem_mem hi)
  obtain ⟨g1, g2, g3, g4, g5⟩ := hgd
  simp only at g1 g2 g3 g4 g5
  have hfl : ∀ m ∈ l, 0 ≤ m.flags ∧ m.flags ≤ 31 := fun m hm => by obtain ⟨_, _, a, b, _⟩ := mails_mem _ _ g5 m hm; exact ⟨a, b⟩
  have i0 : (0 : Int) ≤ (i : Int) := by omega
  have i1 : ¬ (i : Int) < 0 := by omega
  have i2 : (i : Int) < (bs.length : Int) := by omega
  obtain ⟨ad, Ae, ce, e1, b0, b1, b2, hC⟩ := box_at hr i hi
  subst e1
  rw [add1] at b1
  rw [add2] at b2
  rw [hb] at b0 b1 b2 hC
  simp only at b0 b1 b2 hC
  rw [mailsAt_of hi hb] at hfk hj
  obtain ⟨mm, hmm⟩ : ∃ mm, l[j] = mm := ⟨_, rfl⟩
  have hcv : ∀ z, copyV bs l j z = if z < 0 then (7, bs) else addV bs z.toNat mm.flags mm.text := fun z => by
    unfold copyV
    rw [List.getElem?_eq_getElem hj, hmm]
  have hmv : mailV bs i ⟨5, bx, u, f, to_, tx⟩ = copyV bs l j (findG to_ bs 0) := by
    rw [mailV, if_neg (by show ¬ ((5 : Int) = 2); decide), if_neg (by show ¬ ((5 : Int) = 4); decide), mailsAt_of hi hb]
    simp only [hfk]
    rw [if_neg (by omega), if_neg (by decide), Int.toNat_natCast]
  rw [entV_mail (x := ⟨5, bx, u, f, to_, tx⟩) (by show ¬ ((5 : Int) = 6); decide) (by show ¬ ((5 : Int) = 1); decide) hfi, hmv, hcv]
  have hmt := mails_mem _ _ g5 mm (hmm ▸ List.getElem_mem hj)
  replace hmm := Lib.hid hmm
  clear hmv hcv
  replace hfk := Lib.hid hfk
  have HF2 := fun W hr => boxOf_calls (some ad) c bs to_ W hr
  rw [if_pos hneg]
  generalize findG to_ bs 0 = z2 at *
  replace HF2 := Lib.hid HF2
  obtain ⟨W3, hW3⟩ : ∃ W3 : World, W3 = ((w.alloc (.cells #[.slice (some ad) bs.length c, .slice A2 es.length c2] 25)).alloc (.cells #[.int .i64 5, .string bx, .int .i64 u, .int .i64 f, .string to_, .string tx] 40)).alloc (.cells #[.slice none 0 0, .slice none 0 0] 25) := ⟨_, rfl⟩
  have hP0 : Blk W3 w.heap.size [.slice (some ad) bs.length c, .slice A2 es.length c2] := by rw [hW3]; exact ((Blk.made w _ _).alloc _).alloc _
  have hX0 : Blk W3 (w.heap.size + 1) [.int .i64 5, .string bx, .int .i64 u, .int .i64 f, .string to_, .string tx] := by rw [hW3]; exact (Blk.made_at _ _ _ (by simp)).alloc _
  have hQ0 : Blk W3 (w.heap.size + 1 + 1) [.slice none 0 0, .slice none 0 0] := by rw [hW3]; exact Blk.made_at _ _ _ (by simp)
  have hB0 : Below w.heap.size w W3 := by rw [hW3]; exact (by repeat (first | exact Below.refl _ _ | apply below_alloc | apply pw_below_drewN | apply below_drew1 | (refine Below.setCell ?_ (by first | (simp; done) | (simp; omega) | omega) _) ))
  have hz0 : W3.heap.size = w.heap.size + 1 + 1 + 1 := by rw [hW3]; simp
  replace hW3 := Lib.hid hW3
  have hi1 := hinv.1
  have hi2 := hinv.2.1
  have hb30 : ∀ b ∈ bs, b.2.2.length ≤ 1048576 := fun b hb => by have := (hinv.2.2 b hb).2.2.2.1; omega
  have HSC := Lib.hid (stateCopy_calls (some ad) c bs A2 c2 es W3 (Kd.C_below hr hB0) (Kd.C_below hr2 hB0) (by omega) (by omega) hb30)
  have HF := fun W hr => boxOf_calls (some ad) c bs bx W hr
  simp only [hfi] at HF
  replace HF := Lib.hid HF
  clear hfi
  go_enter Tryd.func57, Tryd.ntmps57
  go_wp2_with fail
  rw [← hW3.out]
  refine HSC.out.mono ?_
  rintro e w3 ⟨vB, vS, rfl, hS3, hE3, hb3⟩
  obtain ⟨Ab, cb, rfl⟩ := Kd.S_slice hS3
  obtain ⟨As, cs, rfl⟩ := Kd.R_slice hE3
  have hz3 := hb3.size
  obtain ⟨pb, hpbe⟩ : ∃ pb, pb = w3.heap.size := ⟨_, rfl⟩
  obtain ⟨base, hbe⟩ : ∃ base, base = W3.heap.size := ⟨_, rfl⟩
  obtain ⟨w5, hW5⟩ : ∃ w5 : World, w5 = w3.alloc (.cells #[.slice Ab bs.length cb, .slice As es.length cs] 25) := ⟨_, rfl⟩
  have hP5 : Blk w5 w.heap.size [.slice (some ad) bs.length c, .slice A2 es.length c2] := by rw [hW5]; exact (hP0.below hb3 (by omega)).alloc _
  have hX5 : Blk w5 (w.heap.size + 1) [.int .i64 5, .string bx, .int .i64 u, .int .i64 f, .string to_, .string tx] := by rw [hW5]; exact (hX0.below hb3 (by omega)).alloc _
  have hQ5 : Blk w5 (w.heap.size + 1 + 1) [.slice none 0 0, .slice none 0 0] := by rw [hW5]; exact (hQ0.below hb3 (by omega)).alloc _
  have hk5 : Blk w5 pb [.slice Ab bs.length cb, .slice As es.length cs] := by rw [hW5, hpbe]; exact Blk.made _ _ _
  have hB5 : Below w.heap.size w w5 := by rw [hW5]; exact below_alloc' (hB0.trans (hb3.mono (by omega))) (by omega) _
  have hS5 : Kd.S kBox 77 w5 base (fun k => k ≠ pb) (.slice Ab bs.length cb) bs := by rw [hW5, hbe, hpbe]; exact Kd.S_mono (Kd.S_below (Kd.S_bound hS3) (by repeat (first | exact Below.refl _ _ | apply below_alloc | apply pw_below_drewN | apply below_drew1 | (refine Below.setCell ?_ (by first | (simp; done) | (simp; omega) | omega) _) ))) (fun k hk => by have := hk.2.2.1; show k ≠ _; omega)
  have hE5 : Kd.R kAEntry 40 w5 base (fun k => k ≠ pb) (.slice As es.length cs) es := by rw [hW5, hbe, hpbe]; exact Kd.R_mono (Kd.R_below (Kd.R_bound hE3) (by repeat (first | exact Below.refl _ _ | apply below_alloc | apply pw_below_drewN | apply below_drew1 | (refine Below.setCell ?_ (by first | (simp; done) | (simp; omega) | omega) _) ))) (fun k hk => by have := hk.2.2.1; show k ≠ _; omega)
  have hp : base ≤ pb := by omega
  have hbw : w.heap.size + 1 + 1 < base := by omega
  have hC5 := Kd.C_below hr hB5
  have hz5k := hk5.lt
  have hz5p := hP5.lt
  have hz5x := hX5.lt
  have hz5q := hQ5.lt
  have p0 := (hP0.below hb3 (by omega)).at 0 _ rfl
  have x1 := (hX0.below hb3 (by omega)).at 1 _ rfl
  have hlt1 : w.heap.size < w3.heap.size := by omega
  have hlt2 : w.heap.size + 1 < w3.heap.size := by omega
  replace hW5 := Lib.hid hW5
  replace hpbe := Lib.hid hpbe
  clear hP0 hX0 hQ0 hB0 hb3 hS3 hE3 hbe hz0 hz3 hW3 HSC
  go_wp2_with fail
  rw [← hW5.out, ← hpbe.out]
  clear p0 x1 hlt1 hlt2
  have p0 := hP5.at 0 _ rfl
  have p1 := hP5.at 1 _ rfl
  have x0 := hX5.at 0 _ rfl
  have x1 := hX5.at 1 _ rfl
  have x2 := hX5.at 2 _ rfl
  have x3 := hX5.at 3 _ rfl
  have x4 := hX5.at 4 _ rfl
  have x5 := hX5.at 5 _ rfl
  have k0 := hk5.at 0 _ rfl
  have k1 := hk5.at 1 _ rfl
  refine (HF.out _ hC5).mono ?_
  rintro e w' ⟨rfl, rfl⟩
  have hadw : (ad.add (i * 3)).block < w.heap.size := lt_of_cell' b0
  have hzw : w.heap.size ≤ w5.heap.size := hB5.size
  have hCl : Kd.C kAMail w5 Ae l.length l := Kd.C_below hC hB5
  have b5 := (hB5.cell (p := ⟨(ad.add (i * 3)).block, (ad.add (i * 3)).off + 2, none⟩) hadw).trans b2
  have hl63 := hC.2.1
  clear b0 b1 k0 k1
  go_wp2_with fail
  go_loopw [10, 11, 12] (fun vK av iv wr => ∃ k : Nat, k ≤ l.length ∧ iv = .int .i64 k ∧ av = .int .i64 (findU u (l.take k) 0) ∧ Kd.R kAMail 84 wr w5.heap.size (fun _ => True) vK ((l.take k).filter keepM) ∧ Below w5.heap.size w5 wr) (fun _ _ iv _ => l.length - (intOf iv).toNat)
  case atStart => exact ⟨0, Nat.zero_le _, rfl, rfl, Kd.R_nil _ _ _ _ _, Below.refl _ _⟩
  case round =>
    obtain ⟨k, hk, rfl, rfl, hK, hBk⟩ := hrel
    obtain ⟨vK, hvK⟩ : ∃ vK, vK = u10 := ⟨_, rfl⟩
    rw [← hvK] at hK ⊢
    clear hvK
    have p0k := (hBk.cell (p := ⟨w.heap.size, 0, none⟩) hz5p).trans p0
    have x0k := (hBk.cell (p := ⟨w.heap.size + 1, 0, none⟩) hz5x).trans x0
    have x2k := (hBk.cell (p := ⟨w.heap.size + 1, 2, none⟩) hz5x).trans x2
    have b2k := (hBk.cell (p := ⟨(ad.add (i * 3)).block, (ad.add (i * 3)).off + 2, none⟩) (by show (ad.add (i * 3)).block < w5.heap.size; omega)).trans b5
    have hzk := hBk.size
    have hpk : w.heap.size < wr.heap.size := by omega
    have hxk : w.heap.size + 1 < wr.heap.size := by omega
    have hak : (ad.add (i * 3)).block < wr.heap.size := by omega
    by_cases hlt : k < l.length
    · obtain ⟨ad2, e2, hx0, hxj⟩ := flat_at (Kd.C_below hCl hBk) k hlt
      subst e2
      have m0 := hx0 _ rfl; have m1 := hxj 1 _ (by decide) rfl; have m2 := hxj 2 _ (by decide) rfl
      clear hx0 hxj
      have hts := Lib.hid (findU_step (u := u) hlt g5)
      have htf := Lib.hid (filter_step keepM hlt)
      have hfx := hfl _ (List.getElem_mem hlt)
      have hlk : ((l.take k).filter keepM).length ≤ k := Nat.le_trans (List.length_filter_le _ _) (List.length_take_le _ _)
      have k0 : (0 : Int) ≤ (k : Int) := by omega
      have k1 : (k : Int) < (l.length : Int) := by omega
      have hkeep : keepM l[k] = decide (l[k].flags / 8 % 2 = 0) := rfl
      generalize l[k] = x at *
      generalize findU u (l.take k) 0 = fu at *
      obtain ⟨A5, c5, rfl⟩ := Kd.R_slice hK
      generalize hkl : (l.take k).filter keepM = kl at *
      have d1 : Int.tdiv x.flags 8 = x.flags / 8 := Int.tdiv_eq_ediv_of_nonneg hfx.1
      have hT := Blk.made wr #[.int .i64 x.uid, .int .i64 x.flags, .string x.text] 84
      have hKa := Kd.R_below hK (show Below wr.heap.size wr (wr.alloc (.cells #[.int .i64 x.uid, .int .i64 x.flags, .string x.text] 84)) from (by repeat (first | exact Below.refl _ _ | apply below_alloc | apply pw_below_drewN | apply below_drew1 | (refine Below.setCell ?_ (by first | (simp; done) | (simp; omega) | omega) _) )))
      have hno : some wr.heap.size ≠ (Value.slice A5 kl.length c5).ownBlock := fun he => by have := Kd.R_lt hK _ he.symm; omega
      by_cases hu : x.uid = u
      · have hub : (x.uid == u) = true := by simp [hu]
        have hfu : findU u (l.take (k + 1)) 0 = (k : Int) := by rw [hts.out, if_pos hu]
        replace hfu := Lib.hid hfu
        clear hu hts
        by_cases hkp : x.flags / 8 % 2 = 0
        · have hkk : (l.take (k + 1)).filter keepM = kl ++ [x] := by rw [htf.out, if_pos (by rw [hkeep]; exact decide_eq_true hkp)]
          replace hkk := Lib.hid hkk
          have hkb : (x.flags / 8 % 2 == 0) = true := by simp [hkp]
          clear hkeep htf hkp
          go_wp2_with (at_builtin; refine snoc_list rowAMail w5.heap.size rfl _ _ rfl (.slice A5 kl.length c5) kl x [.int .i64 x.uid, .int .i64 x.flags, .string x.text] (by first | rfl | (simp [Act.eval]; done)) (by first | rfl | (simp [Act.eval]; done)) rfl hKa (by simp; omega) (by omega) ?_)
          intro v1 w6 hR6 hb6 hg6
          have hT6 := hT.grown hg6 hno
          have y0 := hT6.at 0 _ rfl
          have hz6 := hb6.size
          simp at hz6
          have x2n := (hb6.cell (p := ⟨w.heap.size + 1, 2, none⟩) hz5x).trans (cell_alloc' x2k _)
          have hB6 : Below w5.heap.size w5 w6 := Below.trans (below_alloc hBk _) hb6
          go_wp2_with fail
          go_roundw
          case rel => exact ⟨k + 1, hlt, by go_num, by rw [hfu.out], by rw [hkk.out]; exact hR6, hB6⟩
          case measure => simp [intOf]; omega
        · have hkk : (l.take (k + 1)).filter keepM = kl := by rw [htf.out, if_neg (by rw [hkeep]; simpa using hkp), List.append_nil]
          replace hkk := Lib.hid hkk
          have hkb : (x.flags / 8 % 2 == 0) = false := by simp [hkp]
          clear hkeep htf hkp
          go_wp2_with fail
          go_roundw
          case rel => exact ⟨k + 1, hlt, by go_num, by rw [hfu.out], by rw [hkk.out]; exact hKa, below_alloc hBk _⟩
          case measure => simp [intOf]; omega
      · have hub : (x.uid == u) = false := by simp [hu]
        have hfu : findU u (l.take (k + 1)) 0 = fu := by rw [hts.out, if_neg hu]
        replace hfu := Lib.hid hfu
        clear hu hts
        by_cases hkp : x.flags / 8 % 2 = 0
        · have hkk : (l.take (k + 1)).filter keepM = kl ++ [x] := by rw [htf.out, if_pos (by rw [hkeep]; exact decide_eq_true hkp)]
          replace hkk := Lib.hid hkk
          have hkb : (x.flags / 8 % 2 == 0) = true := by simp [hkp]
          clear hkeep htf hkp
          go_wp2_with (at_builtin; refine snoc_list rowAMail w5.heap.size rfl _ _ rfl (.slice A5 kl.length c5) kl x [.int .i64 x.uid, .int .i64 x.flags, .string x.text] (by first | rfl | (simp [Act.eval]; done)) (by first | rfl | (simp [Act.eval]; done)) rfl hKa (by simp; omega) (by omega) ?_)
          intro v1 w6 hR6 hb6 hg6
          have hT6 := hT.grown hg6 hno
          have y0 := hT6.at 0 _ rfl
          have hz6 := hb6.size
          simp at hz6
          have x2n := (hb6.cell (p := ⟨w.heap.size + 1, 2, none⟩) hz5x).trans (cell_alloc' x2k _)
          have hB6 : Below w5.heap.size w5 w6 := Below.trans (below_alloc hBk _) hb6
          go_wp2_with fail
          go_roundw
          case rel => exact ⟨k + 1, hlt, by go_num, by rw [hfu.out], by rw [hkk.out]; exact hR6, hB6⟩
          case measure => simp [intOf]; omega
        · have hkk : (l.take (k + 1)).filter keepM = kl := by rw [htf.out, if_neg (by rw [hkeep]; simpa using hkp), List.append_nil]
          replace hkk := Lib.hid hkk
          have hkb : (x.flags / 8 % 2 == 0) = false := by simp [hkp]
          clear hkeep htf hkp
          go_wp2_with fail
          go_roundw
          case rel => exact ⟨k + 1, hlt, by go_num, by rw [hfu.out], by rw [hkk.out]; exact hKa, below_alloc hBk _⟩
          case measure => simp [intOf]; omega
    · obtain rfl : k = l.length := by omega
      rw [List.take_length] at hK ⊢
      have k1 : ¬ (l.length : Int) < (l.length : Int) := by omega
      skip
      skip
      have hQk := hQ5.below hBk hz5q
      have hBB := hB5.trans (hBk.mono hzw)
      have p1k := (hBk.cell (p := ⟨w.heap.size, 1, none⟩) hz5p).trans p1
      have x1k := (hBk.cell (p := ⟨w.heap.size + 1, 1, none⟩) hz5x).trans x1
      have x3k := (hBk.cell (p := ⟨w.heap.size + 1, 3, none⟩) hz5x).trans x3
      have x4k := (hBk.cell (p := ⟨w.heap.size + 1, 4, none⟩) hz5x).trans x4
      have hlz := hQk.lt
      rw [hfk.out]
      obtain ⟨ad2, e2, hx0, hxj⟩ := flat_at (Kd.C_below hCl hBk) j hj
      subst e2
      rw [hmm.out] at hx0 hxj
      have m0 := hx0 _ rfl; have m1 := hxj 1 _ (by decide) rfl; have m2 := hxj 2 _ (by decide) rfl
      clear hx0 hxj
      obtain ⟨Wn, hWn⟩ : ∃ Wn : World, Wn = wr.alloc (.cells #[.int .i64 mm.uid, .int .i64 mm.flags, .string mm.text] 84) := ⟨_, rfl⟩
      have hbn : Below wr.heap.size wr Wn := by rw [hWn]; exact (by repeat (first | exact Below.refl _ _ | apply below_alloc | apply pw_below_drewN | apply below_drew1 | (refine Below.setCell ?_ (by first | (simp; done) | (simp; omega) | omega) _) ))
      have hTn : Blk Wn wr.heap.size [.int .i64 mm.uid, .int .i64 mm.flags, .string mm.text] := by rw [hWn]; exact Blk.made _ _ _
      have hQn := hQk.below hbn hQk.lt
      have hBn := hBB.trans (hbn.mono (by omega))
      have hCn := Kd.C_below hr hBn
      have t1 := hTn.at 1 _ rfl
      have t2 := hTn.at 2 _ rfl
      have p0n := (hbn.cell (p := ⟨w.heap.size, 0, none⟩) (show w.heap.size < wr.heap.size by omega)).trans ((hBk.cell (p := ⟨w.heap.size, 0, none⟩) hz5p).trans p0)
      have p1n := (hbn.cell (p := ⟨w.heap.size, 1, none⟩) (show w.heap.size < wr.heap.size by omega)).trans p1k
      have jj0 : (0 : Int) ≤ (j : Int) := by omega
      have jj1 : ¬ (j : Int) < 0 := by omega
      have jj2 : (j : Int) < (l.length : Int) := by omega
      have hlzn := hQn.lt
      replace hWn := Lib.hid hWn
      go_wp2_with fail
      rw [← hWn.out]
      refine (HF2.out _ hCn).mono ?_
      rintro e w' ⟨rfl, rfl⟩
      clear m0 m1 m2 x0k x1k x2k x3k x4k b2k p0k p1k hpk hxk hak
      have q0 := hQn.at 0 _ rfl
      have q1 := hQn.at 1 _ rfl
      have q2 := hQn.free 0 _ rfl
      have q3 := hQn.free 1 _ rfl
      go_wp2_with fail
      refine bodyPost_ret (v := .tuple #[.agg #[.slice (some ad) bs.length c, .slice A2 es.length c2], .int .i64 7]) (by simp [results, Tryd.results57, go_sem, *]) rfl ?_
      exact ⟨some ad, c, A2, c2, rfl, hc, hrd.below (by repeat (first | exact Below.refl _ _ | apply below_alloc | apply pw_below_drewN | apply below_drew1 | (refine Below.setCell ?_ (by first | (simp; done) | (simp; omega) | omega) _) | exact hBn)), (by repeat (first | exact Below.refl _ _ | apply below_alloc | apply pw_below_drewN | apply below_drew1 | (refine Below.setCell ?_ (by first | (simp; done) | (simp; omega) | omega) _) | exact hBn))⟩
set_option maxHeartbeats 2000000 in
set_option maxRecDepth 100000 in
theorem entered_copied (Z : Nat → Prop) (i j t : Nat) (bx : ByteArray) (u f : Int) (to_ tx : ByteArray) (A : Option Addr) (c : Nat) (bs : List ABox) (A2 : Option Addr) (c2 : Nat) (es : List AEntry) (w : World) (hrd : Rd Z w A bs A2 es) (hZ : ∀ k, Z k → k < w.heap.size) (hc : bs.length ≤ c) (hinv : InvS bs es) (hfi : findG bx bs 0 = (i : Int)) (hi : i < bs.length) (hfk : findU u (mailsAt bs i) 0 = (j : Int)) (hj : j < (mailsAt bs i).length) (ht : findG to_ bs 0 = (t : Int)) (htl : t < bs.length) :
    Calls Tryd.prog 57 #[.agg #[.slice A bs.length c, .slice A2 es.length c2], .agg #[.int .i64 5, .string bx, .int .i64 u, .int .i64 f, .string to_, .string tx]] w (PostSt Z w (entV bs es ⟨5, bx, u, f, to_, tx⟩)) := by
  skip
  obtain ⟨hr, hr2⟩ := hrd.now
  obtain ⟨nm, nx, l, hb⟩ : ∃ nm nx l, bs[i] = (nm, nx, l) := ⟨_, _, _, rfl⟩
  have hgd : GoodB (nm, nx, l) := by rw [← hb]; exact hinv.2.2 _ (List.getElem_mem hi)
  obtain ⟨g1, g2, g3, g4, g5⟩ := hgd
  simp only at g1 g2 g3 g4 g5
  have hfl : ∀ m ∈ l, 0 ≤ m.flags ∧ m.flags ≤ 31 := fun m hm => by obtain ⟨_, _, a, b, _⟩ := mails_mem _ _ g5 m hm; exact ⟨a, b⟩
  have i0 : (0 : Int) ≤ (i : Int) := by omega
  have i1 : ¬ (i : Int) < 0 := by omega
  have i2 : (i : Int) < (bs.length : Int) := by omega
  obtain ⟨ad, Ae, ce, e1, b0, b1, b2, hC⟩ := box_at hr i hi
  subst e1
  rw [add1] at b1
  rw [add2] at b2
  rw [hb] at b0 b1 b2 hC
  simp only at b0 b1 b2 hC
  rw [mailsAt_of hi hb] at hfk hj
  obtain ⟨mm, hmm⟩ : ∃ mm, l[j] = mm := ⟨_, rfl⟩
  have hcv : ∀ z, copyV bs l j z = if z < 0 then (7, bs) else addV bs z.toNat mm.flags mm.text := fun z => by
    unfold copyV
    rw [List.getElem?_eq_getElem hj, hmm]
  have hmv : mailV bs i ⟨5, bx, u, f, to_, tx⟩ = copyV bs l j (findG to_ bs 0) := by
    rw [mailV, if_neg (by show ¬ ((5 : Int) = 2); decide), if_neg (by show ¬ ((5 : Int) = 4); decide), mailsAt_of hi hb]
    simp only [hfk]
    rw [if_neg (by omega), if_neg (by decide), Int.toNat_natCast]
  rw [entV_mail (x := ⟨5, bx, u, f, to_, tx⟩) (by show ¬ ((5 : Int) = 6); decide) (by show ¬ ((5 : Int) = 1); decide) hfi, hmv, hcv]
  have hmt := mails_mem _ _ g5 mm (hmm ▸ List.getElem_mem hj)
  replace hmm := Lib.hid hmm
  clear hmv hcv
  replace hfk := Lib.hid hfk
  have HF2 := fun W hr => boxOf_calls (some ad) c bs to_ W hr
  rw [ht] at HF2 ⊢
  rw [if_neg (by omega), Int.toNat_natCast]
  have HP := fun Z W h1 h2 => put_calls Z t mm.flags mm.text (some ad) c bs A2 c2 es W h1 h2 hc hinv htl hmt.2.2.2.2
  generalize addV bs t mm.flags mm.text = R at *
  obtain ⟨rf, rb⟩ := R
  replace HP := Lib.hid HP
  replace HF2 := Lib.hid HF2
  have tt1 : ¬ (t : Int) < 0 := by omega
  clear ht hmt
  obtain ⟨W3, hW3⟩ : ∃ W3 : World, W3 = ((w.alloc (.cells #[.slice (some ad) bs.length c, .slice A2 es.length c2] 25)).alloc (.cells #[.int .i64 5, .string bx, .int .i64 u, .int .i64 f, .string to_, .string tx] 40)).alloc (.cells #[.slice none 0 0, .slice none 0 0] 25) := ⟨_, rfl⟩
  have hP0 : Blk W3 w.heap.size [.slice (some ad) bs.length c, .slice A2 es.length c2] := by rw [hW3]; exact ((Blk.made w _ _).alloc _).alloc _
  have hX0 : Blk W3 (w.heap.size + 1) [.int .i64 5, .string bx, .int .i64 u, .int .i64 f, .string to_, .string tx] := by rw [hW3]; exact (Blk.made_at _ _ _ (by simp)).alloc _
  have hQ0 : Blk W3 (w.heap.size + 1 + 1) [.slice none 0 0, .slice none 0 0] := by rw [hW3]; exact Blk.made_at _ _ _ (by simp)
  have hB0 : Below w.heap.size w W3 := by rw [hW3]; exact (by repeat (first | exact Below.refl _ _ | apply below_alloc | apply pw_below_drewN | apply below_drew1 | (refine Below.setCell ?_ (by first | (simp; done) | (simp; omega) | omega) _) ))
  have hz0 : W3.heap.size = w.heap.size + 1 + 1 + 1 := by rw [hW3]; simp
  replace hW3 := Lib.hid hW3
  have hi1 := hinv.1
  have hi2 := hinv.2.1
  have hb30 : ∀ b ∈ bs, b.2.2.length ≤ 1048576 := fun b hb => by have := (hinv.2.2 b hb).2.2.2.1; omega
  have HSC := Lib.hid (stateCopy_calls (some ad) c bs A2 c2 es W3 (Kd.C_below hr hB0) (Kd.C_below hr2 hB0) (by omega) (by omega) hb30)
  have HF := fun W hr => boxOf_calls (some ad) c bs bx W hr
  simp only [hfi] at HF
  replace HF := Lib.hid HF
  clear hfi
  go_enter Tryd.func57, Tryd.ntmps57
  go_wp2_with fail
  rw [← hW3.out]
  refine HSC.out.mono ?_
  rintro e w3 ⟨vB, vS, rfl, hS3, hE3, hb3⟩
  obtain ⟨Ab, cb, rfl⟩ := Kd.S_slice hS3
  obtain ⟨As, cs, rfl⟩ := Kd.R_slice hE3
  have hz3 := hb3.size
  obtain ⟨pb, hpbe⟩ : ∃ pb, pb = w3.heap.size := ⟨_, rfl⟩
  obtain ⟨base, hbe⟩ : ∃ base, base = W3.heap.size := ⟨_, rfl⟩
  obtain ⟨w5, hW5⟩ : ∃ w5 : World, w5 = w3.alloc (.cells #[.slice Ab bs.length cb, .slice As es.length cs] 25) := ⟨_, rfl⟩
  have hP5 : Blk w5 w.heap.size [.slice (some ad) bs.length c, .slice A2 es.length c2] := by rw [hW5]; exact (hP0.below hb3 (by omega)).alloc _
  have hX5 : Blk w5 (w.heap.size + 1) [.int .i64 5, .string bx, .int .i64 u, .int .i64 f, .string to_, .string tx] := by rw [hW5]; exact (hX0.below hb3 (by omega)).alloc _
  have hQ5 : Blk w5 (w.heap.size + 1 + 1) [.slice none 0 0, .slice none 0 0] := by rw [hW5]; exact (hQ0.below hb3 (by omega)).alloc _
  have hk5 : Blk w5 pb [.slice Ab bs.length cb, .slice As es.length cs] := by rw [hW5, hpbe]; exact Blk.made _ _ _
  have hB5 : Below w.heap.size w w5 := by rw [hW5]; exact below_alloc' (hB0.trans (hb3.mono (by omega))) (by omega) _
  have hS5 : Kd.S kBox 77 w5 base (fun k => k ≠ pb) (.slice Ab bs.length cb) bs := by rw [hW5, hbe, hpbe]; exact Kd.S_mono (Kd.S_below (Kd.S_bound hS3) (by repeat (first | exact Below.refl _ _ | apply below_alloc | apply pw_below_drewN | apply below_drew1 | (refine Below.setCell ?_ (by first | (simp; done) | (simp; omega) | omega) _) ))) (fun k hk => by have := hk.2.2.1; show k ≠ _; omega)
  have hE5 : Kd.R kAEntry 40 w5 base (fun k => k ≠ pb) (.slice As es.length cs) es := by rw [hW5, hbe, hpbe]; exact Kd.R_mono (Kd.R_below (Kd.R_bound hE3) (by repeat (first | exact Below.refl _ _ | apply below_alloc | apply pw_below_drewN | apply below_drew1 | (refine Below.setCell ?_ (by first | (simp; done) | (simp; omega) | omega) _) ))) (fun k hk => by have := hk.2.2.1; show k ≠ _; omega)
  have hp : base ≤ pb := by omega
  have hbw : w.heap.size + 1 + 1 < base := by omega
  have hC5 := Kd.C_below hr hB5
  have hz5k := hk5.lt
  have hz5p := hP5.lt
  have hz5x := hX5.lt
  have hz5q := hQ5.lt
  have p0 := (hP0.below hb3 (by omega)).at 0 _ rfl
  have x1 := (hX0.below hb3 (by omega)).at 1 _ rfl
  have hlt1 : w.heap.size < w3.heap.size := by omega
  have hlt2 : w.heap.size + 1 < w3.heap.size := by omega
  replace hW5 := Lib.hid hW5
  replace hpbe := Lib.hid hpbe
  clear hP0 hX0 hQ0 hB0 hb3 hS3 hE3 hbe hz0 hz3 hW3 HSC
  go_wp2_with fail
  rw [← hW5.out, ← hpbe.out]
  clear p0 x1 hlt1 hlt2
  have p0 := hP5.at 0 _ rfl
  have p1 := hP5.at 1 _ rfl
  have x0 := hX5.at 0 _ rfl
  have x1 := hX5.at 1 _ rfl
  have x2 := hX5.at 2 _ rfl
  have x3 := hX5.at 3 _ rfl
  have x4 := hX5.at 4 _ rfl
  have x5 := hX5.at 5 _ rfl
  have k0 := hk5.at 0 _ rfl
  have k1 := hk5.at 1 _ rfl
  refine (HF.out _ hC5).mono ?_
  rintro e w' ⟨rfl, rfl⟩
  have hadw : (ad.add (i * 3)).block < w.heap.size := lt_of_cell' b0
  have hzw : w.heap.size ≤ w5.heap.size := hB5.size
  have hCl : Kd.C kAMail w5 Ae l.length l := Kd.C_below hC hB5
  have b5 := (hB5.cell (p := ⟨(ad.add (i * 3)).block, (ad.add (i * 3)).off + 2, none⟩) hadw).trans b2
  have hl63 := hC.2.1
  clear b0 b1 k0 k1
  go_wp2_with fail
  go_loopw [10, 11, 12] (fun vK av iv wr => ∃ k : Nat, k ≤ l.length ∧ iv = .int .i64 k ∧ av = .int .i64 (findU u (l.take k) 0) ∧ Kd.R kAMail 84 wr w5.heap.size (fun _ => True) vK ((l.take k).filter keepM) ∧ Below w5.heap.size w5 wr) (fun _ _ iv _ => l.length - (intOf iv).toNat)
  case atStart => exact ⟨0, Nat.zero_le _, rfl, rfl, Kd.R_nil _ _ _ _ _, Below.refl _ _⟩
  case round =>
    obtain ⟨k, hk, rfl, rfl, hK, hBk⟩ := hrel
    obtain ⟨vK, hvK⟩ : ∃ vK, vK = u10 := ⟨_, rfl⟩
    rw [← hvK] at hK ⊢
    clear hvK
    have p0k := (hBk.cell (p := ⟨w.heap.size, 0, none⟩) hz5p).trans p0
    have x0k := (hBk.cell (p := ⟨w.heap.size + 1, 0, none⟩) hz5x).trans x0
    have x2k := (hBk.cell (p := ⟨w.heap.size + 1, 2, none⟩) hz5x).trans x2
    have b2k := (hBk.cell (p := ⟨(ad.add (i * 3)).block, (ad.add (i * 3)).off + 2, none⟩) (by show (ad.add (i * 3)).block < w5.heap.size; omega)).trans b5
    have hzk := hBk.size
    have hpk : w.heap.size < wr.heap.size := by omega
    have hxk : w.heap.size + 1 < wr.heap.size := by omega
    have hak : (ad.add (i * 3)).block < wr.heap.size := by omega
    by_cases hlt : k < l.length
    · obtain ⟨ad2, e2, hx0, hxj⟩ := flat_at (Kd.C_below hCl hBk) k hlt
      subst e2
      have m0 := hx0 _ rfl; have m1 := hxj 1 _ (by decide) rfl; have m2 := hxj 2 _ (by decide) rfl
      clear hx0 hxj
      have hts := Lib.hid (findU_step (u := u) hlt g5)
      have htf := Lib.hid (filter_step keepM hlt)
      have hfx := hfl _ (List.getElem_mem hlt)
      have hlk : ((l.take k).filter keepM).length ≤ k := Nat.le_trans (List.length_filter_le _ _) (List.length_take_le _ _)
      have k0 : (0 : Int) ≤ (k : Int) := by omega
      have k1 : (k : Int) < (l.length : Int) := by omega
      have hkeep : keepM l[k] = decide (l[k].flags / 8 % 2 = 0) := rfl
      generalize l[k] = x at *
      generalize findU u (l.take k) 0 = fu at *
      obtain ⟨A5, c5, rfl⟩ := Kd.R_slice hK
      generalize hkl : (l.take k).filter keepM = kl at *
      have d1 : Int.tdiv x.flags 8 = x.flags / 8 := Int.tdiv_eq_ediv_of_nonneg hfx.1
      have hT := Blk.made wr #[.int .i64 x.uid, .int .i64 x.flags, .string x.text] 84
      have hKa := Kd.R_below hK (show Below wr.heap.size wr (wr.alloc (.cells #[.int .i64 x.uid, .int .i64 x.flags, .string x.text] 84)) from (by repeat (first | exact Below.refl _ _ | apply below_alloc | apply pw_below_drewN | apply below_drew1 | (refine Below.setCell ?_ (by first | (simp; done) | (simp; omega) | omega) _) )))
      have hno : some wr.heap.size ≠ (Value.slice A5 kl.length c5).ownBlock := fun he => by have := Kd.R_lt hK _ he.symm; omega
      by_cases hu : x.uid = u
      · have hub : (x.uid == u) = true := by simp [hu]
        have hfu : findU u (l.take (k + 1)) 0 = (k : Int) := by rw [hts.out, if_pos hu]
        replace hfu := Lib.hid hfu
        clear hu hts
        by_cases hkp : x.flags / 8 % 2 = 0
        · have hkk : (l.take (k + 1)).filter keepM = kl ++ [x] := by rw [htf.out, if_pos (by rw [hkeep]; exact decide_eq_true hkp)]
          replace hkk := Lib.hid hkk
          have hkb : (x.flags / 8 % 2 == 0) = true := by simp [hkp]
          clear hkeep htf hkp
          go_wp2_with (at_builtin; refine snoc_list rowAMail w5.heap.size rfl _ _ rfl (.slice A5 kl.length c5) kl x [.int .i64 x.uid, .int .i64 x.flags, .string x.text] (by first | rfl | (simp [Act.eval]; done)) (by first | rfl | (simp [Act.eval]; done)) rfl hKa (by simp; omega) (by omega) ?_)
          intro v1 w6 hR6 hb6 hg6
          have hT6 := hT.grown hg6 hno
          have y0 := hT6.at 0 _ rfl
          have hz6 := hb6.size
          simp at hz6
          have x2n := (hb6.cell (p := ⟨w.heap.size + 1, 2, none⟩) hz5x).trans (cell_alloc' x2k _)
          have hB6 : Below w5.heap.size w5 w6 := Below.trans (below_alloc hBk _) hb6
          go_wp2_with fail
          go_roundw
          case rel => exact ⟨k + 1, hlt, by go_num, by rw [hfu.out], by rw [hkk.out]; exact hR6, hB6⟩
          case measure => simp [intOf]; omega
        · have hkk : (l.take (k + 1)).filter keepM = kl := by rw [htf.out, if_neg (by rw [hkeep]; simpa using hkp), List.append_nil]
          replace hkk := Lib.hid hkk
          have hkb : (x.flags / 8 % 2 == 0) = false := by simp [hkp]
          clear hkeep htf hkp
          go_wp2_with fail
          go_roundw
          case rel => exact ⟨k + 1, hlt, by go_num, by rw [hfu.out], by rw [hkk.out]; exact hKa, below_alloc hBk _⟩
          case measure => simp [intOf]; omega
      · have hub : (x.uid == u) = false := by simp [hu]
        have hfu : findU u (l.take (k + 1)) 0 = fu := by rw [hts.out, if_neg hu]
        replace hfu := Lib.hid hfu
        clear hu hts
        by_cases hkp : x.flags / 8 % 2 = 0
        · have hkk : (l.take (k + 1)).filter keepM = kl ++ [x] := by rw [htf.out, if_pos (by rw [hkeep]; exact decide_eq_true hkp)]
          replace hkk := Lib.hid hkk
          have hkb : (x.flags / 8 % 2 == 0) = true := by simp [hkp]
          clear hkeep htf hkp
          go_wp2_with (at_builtin; refine snoc_list rowAMail w5.heap.size rfl _ _ rfl (.slice A5 kl.length c5) kl x [.int .i64 x.uid, .int .i64 x.flags, .string x.text] (by first | rfl | (simp [Act.eval]; done)) (by first | rfl | (simp [Act.eval]; done)) rfl hKa (by simp; omega) (by omega) ?_)
          intro v1 w6 hR6 hb6 hg6
          have hT6 := hT.grown hg6 hno
          have y0 := hT6.at 0 _ rfl
          have hz6 := hb6.size
          simp at hz6
          have x2n := (hb6.cell (p := ⟨w.heap.size + 1, 2, none⟩) hz5x).trans (cell_alloc' x2k _)
          have hB6 : Below w5.heap.size w5 w6 := Below.trans (below_alloc hBk _) hb6
          go_wp2_with fail
          go_roundw
          case rel => exact ⟨k + 1, hlt, by go_num, by rw [hfu.out], by rw [hkk.out]; exact hR6, hB6⟩
          case measure => simp [intOf]; omega
        · have hkk : (l.take (k + 1)).filter keepM = kl := by rw [htf.out, if_neg (by rw [hkeep]; simpa using hkp), List.append_nil]
          replace hkk := Lib.hid hkk
          have hkb : (x.flags / 8 % 2 == 0) = false := by simp [hkp]
          clear hkeep htf hkp
          go_wp2_with fail
          go_roundw
          case rel => exact ⟨k + 1, hlt, by go_num, by rw [hfu.out], by rw [hkk.out]; exact hKa, below_alloc hBk _⟩
          case measure => simp [intOf]; omega
    · obtain rfl : k = l.length := by omega
      rw [List.take_length] at hK ⊢
      have k1 : ¬ (l.length : Int) < (l.length : Int) := by omega
      skip
      skip
      have hQk := hQ5.below hBk hz5q
      have hBB := hB5.trans (hBk.mono hzw)
      have p1k := (hBk.cell (p := ⟨w.heap.size, 1, none⟩) hz5p).trans p1
      have x1k := (hBk.cell (p := ⟨w.heap.size + 1, 1, none⟩) hz5x).trans x1
      have x3k := (hBk.cell (p := ⟨w.heap.size + 1, 3, none⟩) hz5x).trans x3
      have x4k := (hBk.cell (p := ⟨w.heap.size + 1, 4, none⟩) hz5x).trans x4
      have hlz := hQk.lt
      rw [hfk.out]
      obtain ⟨ad2, e2, hx0, hxj⟩ := flat_at (Kd.C_below hCl hBk) j hj
      subst e2
      rw [hmm.out] at hx0 hxj
      have m0 := hx0 _ rfl; have m1 := hxj 1 _ (by decide) rfl; have m2 := hxj 2 _ (by decide) rfl
      clear hx0 hxj
      obtain ⟨Wn, hWn⟩ : ∃ Wn : World, Wn = wr.alloc (.cells #[.int .i64 mm.uid, .int .i64 mm.flags, .string mm.text] 84) := ⟨_, rfl⟩
      have hbn : Below wr.heap.size wr Wn := by rw [hWn]; exact (by repeat (first | exact Below.refl _ _ | apply below_alloc | apply pw_below_drewN | apply below_drew1 | (refine Below.setCell ?_ (by first | (simp; done) | (simp; omega) | omega) _) ))
      have hTn : Blk Wn wr.heap.size [.int .i64 mm.uid, .int .i64 mm.flags, .string mm.text] := by rw [hWn]; exact Blk.made _ _ _
      have hQn := hQk.below hbn hQk.lt
      have hBn := hBB.trans (hbn.mono (by omega))
      have hCn := Kd.C_below hr hBn
      have t1 := hTn.at 1 _ rfl
      have t2 := hTn.at 2 _ rfl
      have p0n := (hbn.cell (p := ⟨w.heap.size, 0, none⟩) (show w.heap.size < wr.heap.size by omega)).trans ((hBk.cell (p := ⟨w.heap.size, 0, none⟩) hz5p).trans p0)
      have p1n := (hbn.cell (p := ⟨w.heap.size, 1, none⟩) (show w.heap.size < wr.heap.size by omega)).trans p1k
      have jj0 : (0 : Int) ≤ (j : Int) := by omega
      have jj1 : ¬ (j : Int) < 0 := by omega
      have jj2 : (j : Int) < (l.length : Int) := by omega
      have hlzn := hQn.lt
      replace hWn := Lib.hid hWn
      go_wp2_with fail
      rw [← hWn.out]
      refine (HF2.out _ hCn).mono ?_
      rintro e w' ⟨rfl, rfl⟩
      clear m0 m1 m2 x0k x1k x2k x3k x4k b2k p0k p1k hpk hxk hak
      go_wp2_with fail
      have hrd5 := hrd.step (Z' := fun k => Z k ∨ k = w.heap.size + 1 + 1) (hBn).size (fun k _ h => (hBn).block k h) (fun k hk hz => hz.elim id (fun h => by omega))
      have hQl := (hQn).lt
      refine (HP.out (fun k => Z k ∨ k = w.heap.size + 1 + 1) _ hrd5 (fun k hk => by rcases hk with hk | hk; have := hZ k hk; have := (hBn).size; omega; omega)).mono ?_
      rintro e w6 ⟨A6, c6, A7, c7, rfl, hc6, hrd6, hb6⟩
      simp only at hc6 hrd6 ⊢
      have hQ6 := (hQn).below hb6 hQl
      have hB6 := (hBn).trans (hb6.mono (hBn).size)
      have hz6 := hb6.size
      have q0 := hQ6.at 0 _ rfl
      have q1 := hQ6.at 1 _ rfl
      have q2 := hQ6.free 0 _ rfl
      have q3 := hQ6.free 1 _ rfl
      have hql := hQ6.lt
      go_wp2_with fail
      refine bodyPost_ret (v := .tuple #[.agg #[.slice A6 rb.length c6, .slice A7 es.length c7], .int .i64 rf]) (by simp [results, Tryd.results57, go_sem, *]) rfl ?_
      exact ⟨A6, c6, A7, c7, rfl, hc6, ((((hrd6.stored (.inr rfl) 0 _).stored (.inr rfl) 1 _)).below (by repeat (first | exact Below.refl _ _ | apply below_alloc | apply pw_below_drewN | apply below_drew1 | (refine Below.setCell ?_ (by first | (simp; done) | (simp; omega) | omega) _) ))).less (fun k hk => .inl hk), (by repeat (first | exact Below.refl _ _ | apply below_alloc | apply pw_below_drewN | apply below_drew1 | (refine Below.setCell ?_ (by first | (simp; done) | (simp; omega) | omega) _) | exact hB6))⟩
theorem entered_calls (Z : Nat → Prop) (x : AEntry) (A : Option Addr) (c : Nat) (bs : List ABox) (A2 : Option Addr) (c2 : Nat) (es : List AEntry) (w : World) (hrd : Rd Z w A bs A2 es) (hZ : ∀ k, Z k → k < w.heap.size) (hc : bs.length ≤ c) (hinv : InvS bs es) (hx : entryFault x = 0) :
    Calls Tryd.prog 57 #[.agg #[.slice A bs.length c, .slice A2 es.length c2], .agg #[.int .i64 x.kind, .string x.box, .int .i64 x.uid, .int .i64 x.flags, .string x.to_, .string x.text]] w (PostSt Z w (entV bs es x)) := by
  obtain ⟨a1, a2, a3, a4, a5, _⟩ := ef_ok hx
  obtain ⟨k, bx, u, f, to_, tx⟩ := x
  simp only at a1 a2 a3 a4 a5 ⊢
  clear hx
  rcases (by omega : k = 6 ∨ k = 1 ∨ k = 2 ∨ k = 3 ∨ k = 4 ∨ k = 5) with rfl | rfl | hk
  · exact entered_spool Z bx u f to_ tx A c bs A2 c2 es w hrd hZ hc hinv
  · exact entered_create Z bx u f to_ tx A c bs A2 c2 es w hrd hZ hc hinv
  · by_cases hf : findG bx bs 0 < 0
    · exact entered_none Z k bx u f to_ tx A c bs A2 c2 es w hrd hZ hc hinv (by omega) (by omega) hf
    · obtain ⟨i, hfi, hi⟩ : ∃ i : Nat, findG bx bs 0 = (i : Int) ∧ i < bs.length := by
        rcases findG_lt (nm := bx) bs 0 with h1 | h1
        · omega
        · exact ⟨(findG bx bs 0).toNat, by omega, by omega⟩
      by_cases hk2 : k = 2
      · subst hk2; exact entered_append Z i bx u f to_ tx A c bs A2 c2 es w hrd hZ hc hinv a5 hfi hi
      · by_cases hk4 : k = 4
        · subst hk4; exact entered_expunge Z i bx u f to_ tx A c bs A2 c2 es w hrd hZ hc hinv hfi hi
        · by_cases hu : findU u (mailsAt bs i) 0 < 0
          · exact entered_miss Z i k bx u f to_ tx A c bs A2 c2 es w hrd hZ hc hinv (by omega) hfi hi hu
          · obtain ⟨j, hfj, hj⟩ : ∃ j : Nat, findU u (mailsAt bs i) 0 = (j : Int) ∧ j < (mailsAt bs i).length := by
              rcases findU_lt (u := u) (mailsAt bs i) 0 with h1 | h1
              · omega
              · exact ⟨(findU u (mailsAt bs i) 0).toNat, by omega, by omega⟩
            rcases (by omega : k = 3 ∨ k = 5) with rfl | rfl
            · exact entered_flag Z i j bx u f to_ tx A c bs A2 c2 es w hrd hZ hc hinv hfi hi hfj hj
            · by_cases hneg : findG to_ bs 0 < 0
              · exact entered_copy Z i j bx u f to_ tx A c bs A2 c2 es w hrd hZ hc hinv hfi hi hfj hj hneg
              · obtain ⟨t, ht, htl⟩ : ∃ t : Nat, findG to_ bs 0 = (t : Int) ∧ t < bs.length := by
                  rcases findG_lt (nm := to_) bs 0 with h1 | h1
                  · omega
                  · exact ⟨(findG to_ bs 0).toNat, by omega, by omega⟩
                exact entered_copied Z i j t bx u f to_ tx A c bs A2 c2 es w hrd hZ hc hinv hfi hi hfj hj ht htl
end Go.Proofs.YtijdghplfhfpaaaDoor.H

/- Boxes: the reference's StateFault: the walk. -/
namespace Go.Proofs.YtijdghplfhfpaaaDoor.H
open Go.RowKit Go.Proofs.YtijdghplfhfpaaaDoorW.PrintWords Go.Proofs.YtijdghplfhfpaaaDoorW.PrintLast Go.Proofs.YtijdghplfhfpaaaDoor.U
set_option linter.unusedVariables false
set_option linter.unusedSimpArgs false
set_option maxHeartbeats 2000000 in
set_option maxRecDepth 100000 in
theorem stateFault_calls (A : Option Addr) (c : Nat) (bs : List ABox) (A2 : Option Addr) (c2 : Nat) (es : List AEntry) (w : World) (hr : kBox.C w A bs.length bs) (hc : bs.length ≤ c) (hr2 : Kd.C kAEntry w A2 es.length es) (hs : okSt bs es) :
    Calls Tryd.prog 15 #[.agg #[.slice A bs.length c, .slice A2 es.length c2]] w fun e w' => e = .returned (.int .i64 (stFault bs es)) ∧ Below w.heap.size w w' := by
  have h63 := hr.2.1
  have h64 := hr2.2.1
  by_cases hlen : 5 < bs.length ∨ 20 < es.length
  · rw [stFault, if_pos hlen]
    by_cases h1 : 5 < bs.length
    · have h1' : (5 : Int) < (bs.length : Int) := by omega
      go_enter Tryd.func15, Tryd.ntmps15
      go_wp2_with fail
      go_ret
      exact ⟨(by first | rfl | (simp; done) | (simp [*]; done) | (rw [if_pos (by omega)]; first | rfl | (simp; done)) | (rw [if_neg (by omega)]; first | rfl | (simp; done)) | (simp; omega)), (by repeat (first | exact Below.refl _ _ | apply below_alloc | apply pw_below_drewN | apply below_drew1 | (refine Below.setCell ?_ (by first | (simp; done) | (simp; omega) | omega) _) ))⟩
    · have h1' : ¬ (5 : Int) < (bs.length : Int) := by omega
      have h2' : (20 : Int) < (es.length : Int) := by omega
      go_enter Tryd.func15, Tryd.ntmps15
      go_wp2_with fail
      go_ret
      exact ⟨(by first | rfl | (simp; done) | (simp [*]; done) | (rw [if_pos (by omega)]; first | rfl | (simp; done)) | (rw [if_neg (by omega)]; first | rfl | (simp; done)) | (simp; omega)), (by repeat (first | exact Below.refl _ _ | apply below_alloc | apply pw_below_drewN | apply below_drew1 | (refine Below.setCell ?_ (by first | (simp; done) | (simp; omega) | omega) _) ))⟩
  · rw [stFault, if_neg hlen]
    have h1' : ¬ (5 : Int) < (bs.length : Int) := by omega
    have h2' : ¬ (20 : Int) < (es.length : Int) := by omega
    have hl5 : bs.length ≤ 5 := by omega
    generalize hR : stTail bs es = R
    have hk0 := Blk.made w #[.slice A bs.length c, .slice A2 es.length c2] 25
    have hB0 : Below w.heap.size w (w.alloc (.cells #[.slice A bs.length c, .slice A2 es.length c2] 25)) := (by repeat (first | exact Below.refl _ _ | apply below_alloc | apply pw_below_drewN | apply below_drew1 | (refine Below.setCell ?_ (by first | (simp; done) | (simp; omega) | omega) _) ))
    clear hlen
    go_enter Tryd.func15, Tryd.ntmps15
    go_wp2_with fail
    go_loopw [3] (fun i wr => ∃ k : Nat, k ≤ bs.length ∧ i = .int .i64 k ∧ (boxesFrom bs k = true → boxesFrom bs 0 = true) ∧ (boxesFrom bs k = false → R = 11) ∧ Blk wr w.heap.size [.slice A bs.length c, .slice A2 es.length c2] ∧ Below w.heap.size w wr) (fun i _ => bs.length - (intOf i).toNat)
    case atStart => exact ⟨0, Nat.zero_le _, rfl, id, (fun h => by rw [← hR, stTail, if_neg (by rw [h]; decide)]), hk0, hB0⟩
    case round =>
      clear hk0 hB0
      obtain ⟨k, hk, rfl, hyes, hno, hblk, hB⟩ := hrel
      have hz := hblk.lt
      have b0 := hblk.at 0 _ rfl
      by_cases hlt : k < bs.length
      · obtain ⟨ad, Ae, ce, e1, x0, x1, x2, hC⟩ := box_at (Kd.C_below hr hB) k hlt
        subst e1
        rw [add1] at x1
        rw [add2] at x2
        have i0 : (0 : Int) ≤ (k : Int) := by omega
        have i1 : (k : Int) < (bs.length : Int) := by omega
        have hsz := hs.1 _ (List.getElem_mem hlt)
        have hbd := fun h => boxes_bad hlt h
        have hgd := fun h h2 => boxes_good hlt h h2
        obtain ⟨nm, nx, l, hbk⟩ : ∃ nm nx l, bs[k] = (nm, nx, l) := ⟨_, _, _, rfl⟩
        rw [hbk] at x0 x1 x2 hC hsz hbd hgd
        simp only at x0 x1 x2 hC hsz hbd hgd
        clear hbk
        have htk : (bs.take k).length = k := by rw [List.length_take]; omega
        have HF := fun w hr' => boxOf_calls (some ad) c (bs.take k) nm w hr'
        rw [htk] at HF
        have HN := fun w => boxName_calls nm w (by omega)
        have hl3 := hC.2.1
        have i2 : (k : Int) ≤ (c : Int) := by omega
        have hCq := C_pre (Kd.C_below hr (show Below w.heap.size w (wr.alloc (.cells #[.string nm, .int .i64 nx, .slice Ae l.length ce] 77)) from (by repeat (first | exact Below.refl _ _ | apply below_alloc | apply pw_below_drewN | apply below_drew1 | (refine Below.setCell ?_ (by first | (simp; done) | (simp; omega) | omega) _) | exact hB)))) k hk
        generalize findG nm (bs.take k) 0 = fi at *
        replace HF := Lib.hid HF
        by_cases hn : nameFault nm = 0
        · rw [hn] at HN
          replace HN := Lib.hid HN
          by_cases hfi : fi < 0
          · by_cases hx1 : nx < 1 ∨ 1048577 < nx
            · have hR11 := hno (hbd (fun h => by have := h.1; unfold boxOk at this; rw [if_pos (by rcases hx1 with h | h; exact .inr (.inl h); exact .inr (.inr (.inl h)))] at this; cases this))
              subst hR11
              have hfi' : ¬ 0 ≤ fi := by omega
              clear hbd hgd hyes hno hn
              go_wp2_with fail
              go_quiet ((first | (go_at_call 50; exact quiet_eq (HN.out _)) | (go_at_call 51; exact quiet_eq (HF.out _ (Kd.C_below hCq (by first | exact Below.refl _ _ | exact pw_below_drewN (Below.refl _ _) _)))) | (go_at_call 52; first | exact quiet_eq (in_yes _ _ _ _ (by omega) (by omega)) | exact quiet_eq (in_no _ _ _ _ (by omega)))))
              go_wp2_with fail
              go_ret
              exact ⟨(by first | rfl | (simp; done) | (simp [*]; done) | (rw [if_pos (by omega)]; first | rfl | (simp; done)) | (rw [if_neg (by omega)]; first | rfl | (simp; done)) | (simp; omega)), (by repeat (first | exact Below.refl _ _ | apply below_alloc | apply pw_below_drewN | apply below_drew1 | (refine Below.setCell ?_ (by first | (simp; done) | (simp; omega) | omega) _) | exact hB))⟩
            · have hfi' : ¬ 0 ≤ fi := by omega
              by_cases hl30 : 30 < l.length
              · have hR11 := hno (hbd (fun h => by have := h.1; unfold boxOk at this; rw [if_pos (.inr (.inr (.inr hl30)))] at this; cases this))
                subst hR11
                have hl30' : (30 : Int) < (l.length : Int) := by omega
                clear hbd hgd hyes hno hn
                go_wp2_with fail
                go_quiet ((first | (go_at_call 50; exact quiet_eq (HN.out _)) | (go_at_call 51; exact quiet_eq (HF.out _ (Kd.C_below hCq (by first | exact Below.refl _ _ | exact pw_below_drewN (Below.refl _ _) _)))) | (go_at_call 52; first | exact quiet_eq (in_yes _ _ _ _ (by omega) (by omega)) | exact quiet_eq (in_no _ _ _ _ (by omega)))))
                go_wp2_with fail
                go_ret
                exact ⟨(by first | rfl | (simp; done) | (simp [*]; done) | (rw [if_pos (by omega)]; first | rfl | (simp; done)) | (rw [if_neg (by omega)]; first | rfl | (simp; done)) | (simp; omega)), (by repeat (first | exact Below.refl _ _ | apply below_alloc | apply pw_below_drewN | apply below_drew1 | (refine Below.setCell ?_ (by first | (simp; done) | (simp; omega) | omega) _) | exact hB))⟩
              · have hl30' : ¬ (30 : Int) < (l.length : Int) := by omega
                have hbo : boxOk (nm, nx, l) = mailsOk nx 0 l := by
                  unfold boxOk
                  rw [if_neg (by intro h; rcases h with h | h | h | h; exact h hn; exact hx1 (.inl h); exact hx1 (.inr h); exact hl30 h)]
                rw [hbo] at hbd hgd
                clear hbo hn
                have hbdh := Lib.hid (fun (h : mailsOk nx 0 l = false) => hno (hbd (fun h2 => by rw [h] at h2; cases h2.1)))
                have hgdh := Lib.hid (fun (h : mailsOk nx 0 l = true) => hgd h hfi)
                replace hyes := Lib.hid hyes
                replace hno := Lib.hid hno
                clear hbd hgd
                go_wp2_with fail
                go_quiet ((first | (go_at_call 50; exact quiet_eq (HN.out _)) | (go_at_call 51; exact quiet_eq (HF.out _ (Kd.C_below hCq (by first | exact Below.refl _ _ | exact pw_below_drewN (Below.refl _ _) _)))) | (go_at_call 52; first | exact quiet_eq (in_yes _ _ _ _ (by omega) (by omega)) | exact quiet_eq (in_no _ _ _ _ (by omega)))))
                obtain ⟨Wq, hWq⟩ : ∃ Wq : World, Wq = (wr.alloc (.cells #[.string nm, .int .i64 nx, .slice Ae l.length ce] 77)).drewN nq := ⟨_, rfl⟩
                have hbx : Below wr.heap.size wr Wq := by rw [hWq]; exact (by repeat (first | exact Below.refl _ _ | apply below_alloc | apply pw_below_drewN | apply below_drew1 | (refine Below.setCell ?_ (by first | (simp; done) | (simp; omega) | omega) _) ))
                have hX : Blk Wq wr.heap.size [.string nm, .int .i64 nx, .slice Ae l.length ce] := by rw [hWq]; exact (Blk.made wr _ _).below (show Below (wr.heap.size + 1) _ _ from (by repeat (first | exact Below.refl _ _ | apply below_alloc | apply pw_below_drewN | apply below_drew1 | (refine Below.setCell ?_ (by first | (simp; done) | (simp; omega) | omega) _) ))) (Nat.lt_succ_self _)
                have hblkq := hblk.below hbx hz
                have hBq := hB.trans (hbx.mono (by omega))
                have hCl := Kd.C_below hC hbx
                rw [← hWq]
                replace hWq := Lib.hid hWq
                have hzx := hX.lt
                clear hblk b0 x0 x1 x2 hC hCq
                obtain ⟨W0, hW0⟩ : ∃ W0 : World, W0 = wr := ⟨_, rfl⟩
                generalize wr.heap.size = bb at *
                go_wp2_with fail
                go_loopw [5] (fun i wz => ∃ (j : Nat) (last : Int), j ≤ l.length ∧ i = .int .i64 j ∧ mailsOk nx last (l.drop j) = mailsOk nx 0 l ∧ 0 ≤ last ∧ (j = 0 → last = 0) ∧ (∀ (h : 0 < j) (h2 : j - 1 < l.length), last = l[j - 1].uid) ∧ Blk wz bb [.string nm, .int .i64 nx, .slice Ae l.length ce] ∧ Blk wz w.heap.size [.slice (some ad) bs.length c, .slice A2 es.length c2] ∧ Below Wq.heap.size Wq wz) (fun i _ => l.length - (intOf i).toNat)
                case atStart => exact ⟨0, 0, Nat.zero_le _, rfl, rfl, Int.le_refl _, fun _ => rfl, fun h => absurd h (Nat.lt_irrefl _), hX, hblkq, Below.refl _ _⟩
                case round =>
                  obtain ⟨j, last, hj, rfl, hmo, hl0, hj0, hjp, hXz, hblkz, hBz⟩ := hrel
                  clear hX hblkq
                  have hBzz := hBq.trans (hBz.mono (by omega))
                  have bx1 := hXz.at 1 _ rfl
                  have bx2 := hXz.at 2 _ rfl
                  by_cases hlj : j < l.length
                  · obtain ⟨ad2, e2, hx0, hxj⟩ := flat_at (Kd.C_below hCl hBz) j hlj
                    subst e2
                    have q0 := hx0 _ rfl; have q1 := hxj 1 _ (by decide) rfl; have q2 := hxj 2 _ (by decide) rfl
                    clear hx0 hxj
                    have hbd2 := fun h => mails_bad (next := nx) (last := last) hlj h
                    have hgd2 := fun h => mails_good (next := nx) (last := last) hlj h
                    rw [hmo] at hbd2 hgd2
                    clear hmo
                    have j0 : (0 : Int) ≤ (j : Int) := by omega
                    have j1 : (j : Int) < (l.length : Int) := by omega
                    have hzz := hXz.lt
                    have wn : IntKind.i64.wrap (nx - 1) = nx - 1 := by rw [IntKind.wrap_i64]; omega
                    rcases Nat.eq_zero_or_pos j with hjz | hjz
                    · have hl00 := hj0 hjz
                      subst hl00
                      have jz : decide (0 < j) = false := decide_eq_false (by omega)
                      clear hjp hj0
                      replace hjz := Lib.hid hjz
                      generalize hlx : l[j] = x at *
                      replace hlx := Lib.hid hlx
                      by_cases g1 : x.uid ≤ 0
                      · have hR11 := hbdh.out (hbd2 (.inl g1))
                        subst hR11
                        clear hbd2 hgd2
                        go_wp2_with fail
                        go_quiet ((go_at_call 52; first | exact quiet_eq (in_yes _ _ _ _ (by omega) (by omega)) | exact quiet_eq (in_no _ _ _ _ (by omega))))
                        go_wp2_with fail
                        go_ret
                        exact ⟨(by first | rfl | (simp; done) | (simp [*]; done) | (rw [if_pos (by omega)]; first | rfl | (simp; done)) | (rw [if_neg (by omega)]; first | rfl | (simp; done)) | (simp; omega)), (by repeat (first | exact Below.refl _ _ | apply below_alloc | apply pw_below_drewN | apply below_drew1 | (refine Below.setCell ?_ (by first | (simp; done) | (simp; omega) | omega) _) | exact hBzz))⟩
                      · by_cases g2 : nx ≤ x.uid
                        · have hR11 := hbdh.out (hbd2 (.inr (.inl g2)))
                          subst hR11
                          clear hbd2 hgd2
                          go_wp2_with fail
                          go_quiet ((go_at_call 52; first | exact quiet_eq (in_yes _ _ _ _ (by omega) (by omega)) | exact quiet_eq (in_no _ _ _ _ (by omega))))
                          go_wp2_with fail
                          go_ret
                          exact ⟨(by first | rfl | (simp; done) | (simp [*]; done) | (rw [if_pos (by omega)]; first | rfl | (simp; done)) | (rw [if_neg (by omega)]; first | rfl | (simp; done)) | (simp; omega)), (by repeat (first | exact Below.refl _ _ | apply below_alloc | apply pw_below_drewN | apply below_drew1 | (refine Below.setCell ?_ (by first | (simp; done) | (simp; omega) | omega) _) | exact hBzz))⟩
                        · by_cases g3 : x.flags < 0
                          · have hR11 := hbdh.out (hbd2 (.inr (.inr (.inl g3))))
                            subst hR11
                            clear hbd2 hgd2
                            go_wp2_with fail
                            go_quiet ((go_at_call 52; first | exact quiet_eq (in_yes _ _ _ _ (by omega) (by omega)) | exact quiet_eq (in_no _ _ _ _ (by omega))))
                            go_wp2_with fail
                            go_ret
                            exact ⟨(by first | rfl | (simp; done) | (simp [*]; done) | (rw [if_pos (by omega)]; first | rfl | (simp; done)) | (rw [if_neg (by omega)]; first | rfl | (simp; done)) | (simp; omega)), (by repeat (first | exact Below.refl _ _ | apply below_alloc | apply pw_below_drewN | apply below_drew1 | (refine Below.setCell ?_ (by first | (simp; done) | (simp; omega) | omega) _) | exact hBzz))⟩
                          · by_cases g4 : 31 < x.flags
                            · have hR11 := hbdh.out (hbd2 (.inr (.inr (.inr (.inl g4)))))
                              subst hR11
                              clear hbd2 hgd2
                              go_wp2_with fail
                              go_quiet ((go_at_call 52; first | exact quiet_eq (in_yes _ _ _ _ (by omega) (by omega)) | exact quiet_eq (in_no _ _ _ _ (by omega))))
                              go_wp2_with fail
                              go_ret
                              exact ⟨(by first | rfl | (simp; done) | (simp [*]; done) | (rw [if_pos (by omega)]; first | rfl | (simp; done)) | (rw [if_neg (by omega)]; first | rfl | (simp; done)) | (simp; omega)), (by repeat (first | exact Below.refl _ _ | apply below_alloc | apply pw_below_drewN | apply below_drew1 | (refine Below.setCell ?_ (by first | (simp; done) | (simp; omega) | omega) _) | exact hBzz))⟩
                            · by_cases g5 : 2000 < x.text.size
                              · have g5' : (2000 : Int) < (x.text.size : Int) := by omega
                                have hR11 := hbdh.out (hbd2 (.inr (.inr (.inr (.inr g5)))))
                                subst hR11
                                clear hbd2 hgd2
                                go_wp2_with fail
                                go_quiet ((go_at_call 52; first | exact quiet_eq (in_yes _ _ _ _ (by omega) (by omega)) | exact quiet_eq (in_no _ _ _ _ (by omega))))
                                go_wp2_with fail
                                go_ret
                                exact ⟨(by first | rfl | (simp; done) | (simp [*]; done) | (rw [if_pos (by omega)]; first | rfl | (simp; done)) | (rw [if_neg (by omega)]; first | rfl | (simp; done)) | (simp; omega)), (by repeat (first | exact Below.refl _ _ | apply below_alloc | apply pw_below_drewN | apply below_drew1 | (refine Below.setCell ?_ (by first | (simp; done) | (simp; omega) | omega) _) | exact hBzz))⟩
                              · have g5' : ¬ (2000 : Int) < (x.text.size : Int) := by omega
                                have hn2 := Lib.hid (hgd2 (by intro h; rcases h with h | h | h | h | h <;> omega))
                                clear hbd2 hgd2
                                go_wp2_with fail
                                go_quiet ((go_at_call 52; first | exact quiet_eq (in_yes _ _ _ _ (by omega) (by omega)) | exact quiet_eq (in_no _ _ _ _ (by omega))))
                                go_wp2_with fail
                                go_roundw
                                case rel => exact ⟨j + 1, x.uid, hlj, by go_num, by rw [← hn2.out], by omega, fun h => by omega, fun h h2 => by simp only [Nat.add_sub_cancel]; rw [hlx.out], hXz.below (show Below wr.heap.size wr _ from (by repeat (first | exact Below.refl _ _ | apply below_alloc | apply pw_below_drewN | apply below_drew1 | (refine Below.setCell ?_ (by first | (simp; done) | (simp; omega) | omega) _) ))) (by omega), hblkz.below (show Below wr.heap.size wr _ from (by repeat (first | exact Below.refl _ _ | apply below_alloc | apply pw_below_drewN | apply below_drew1 | (refine Below.setCell ?_ (by first | (simp; done) | (simp; omega) | omega) _) ))) (by omega), Below.trans hBz (Below.mono (show Below wr.heap.size wr _ from (by repeat (first | exact Below.refl _ _ | apply below_alloc | apply pw_below_drewN | apply below_drew1 | (refine Below.setCell ?_ (by first | (simp; done) | (simp; omega) | omega) _) ))) hBz.size)⟩
                                case measure => simp [intOf]; omega
                    · obtain ⟨i, rfl⟩ : ∃ i, j = i + 1 := ⟨j - 1, by omega⟩
                      have hlast := hjp hjz (by omega)
                      simp only [Nat.add_sub_cancel] at hlast
                      obtain ⟨ad3, e3, hx0, hxj⟩ := flat_at (Kd.C_below hCl hBz) i (by omega)
                      obtain rfl := Option.some.inj e3
                      have r0 := hx0 _ rfl; have r1 := hxj 1 _ (by decide) rfl; have r2 := hxj 2 _ (by decide) rfl
                      clear hx0 hxj
                      rw [← hlast] at r0
                      clear r1 r2
                      have ji : i < l.length := by omega
                      have jz : decide (0 < i + 1) = true := decide_eq_true (by omega)
                      have jz2 : (0 : Int) < (i : Int) + 1 := by omega
                      have jo : (0 : Int) ≤ (i : Int) := by omega
                      have jp : (i : Int) < (l.length : Int) := by omega
                      have jq : (0 : Int) ≤ (i : Int) + 1 := by omega
                      have jr : (i : Int) + 1 < (l.length : Int) := by omega
                      have jw : IntKind.i64.wrap (i : Int) = (i : Int) := by rw [IntKind.wrap_i64]; omega
                      clear hjp hj0 hlast
                      generalize hlx : l[i + 1] = x at *
                      replace hlx := Lib.hid hlx
                      have r0a := cell_alloc' r0 (.cells #[.int .i64 x.uid, .int .i64 x.flags, .string x.text] 84)
                      by_cases g1 : x.uid < 1
                      · have hR11 := hbdh.out (hbd2 (.inl (by omega)))
                        subst hR11
                        clear hbd2 hgd2
                        go_wp2_with fail
                        go_quiet ((go_at_call 52; first | exact quiet_eq (in_yes _ _ _ _ (by omega) (by omega)) | exact quiet_eq (in_no _ _ _ _ (by omega))))
                        go_wp2_with fail
                        go_ret
                        exact ⟨(by first | rfl | (simp; done) | (simp [*]; done) | (rw [if_pos (by omega)]; first | rfl | (simp; done)) | (rw [if_neg (by omega)]; first | rfl | (simp; done)) | (simp; omega)), (by repeat (first | exact Below.refl _ _ | apply below_alloc | apply pw_below_drewN | apply below_drew1 | (refine Below.setCell ?_ (by first | (simp; done) | (simp; omega) | omega) _) | exact hBzz))⟩
                      · by_cases g1' : x.uid ≤ last
                        · by_cases g2 : nx ≤ x.uid
                          · have hR11 := hbdh.out (hbd2 (.inr (.inl g2)))
                            subst hR11
                            clear hbd2 hgd2
                            go_wp2_with fail
                            go_quiet ((go_at_call 52; first | exact quiet_eq (in_yes _ _ _ _ (by omega) (by omega)) | exact quiet_eq (in_no _ _ _ _ (by omega))))
                            go_wp2_with fail
                            go_ret
                            exact ⟨(by first | rfl | (simp; done) | (simp [*]; done) | (rw [if_pos (by omega)]; first | rfl | (simp; done)) | (rw [if_neg (by omega)]; first | rfl | (simp; done)) | (simp; omega)), (by repeat (first | exact Below.refl _ _ | apply below_alloc | apply pw_below_drewN | apply below_drew1 | (refine Below.setCell ?_ (by first | (simp; done) | (simp; omega) | omega) _) | exact hBzz))⟩
                          · have hR11 := hbdh.out (hbd2 (.inl g1'))
                            subst hR11
                            clear hbd2 hgd2
                            go_wp2_with fail
                            go_quiet ((go_at_call 52; first | exact quiet_eq (in_yes _ _ _ _ (by omega) (by omega)) | exact quiet_eq (in_no _ _ _ _ (by omega))))
                            go_wp2_with fail
                            go_ret
                            exact ⟨(by first | rfl | (simp; done) | (simp [*]; done) | (rw [if_pos (by omega)]; first | rfl | (simp; done)) | (rw [if_neg (by omega)]; first | rfl | (simp; done)) | (simp; omega)), (by repeat (first | exact Below.refl _ _ | apply below_alloc | apply pw_below_drewN | apply below_drew1 | (refine Below.setCell ?_ (by first | (simp; done) | (simp; omega) | omega) _) | exact hBzz))⟩
                        · by_cases g2 : nx ≤ x.uid
                          · have hR11 := hbdh.out (hbd2 (.inr (.inl g2)))
                            subst hR11
                            clear hbd2 hgd2
                            go_wp2_with fail
                            go_quiet ((go_at_call 52; first | exact quiet_eq (in_yes _ _ _ _ (by omega) (by omega)) | exact quiet_eq (in_no _ _ _ _ (by omega))))
                            go_wp2_with fail
                            go_ret
                            exact ⟨(by first | rfl | (simp; done) | (simp [*]; done) | (rw [if_pos (by omega)]; first | rfl | (simp; done)) | (rw [if_neg (by omega)]; first | rfl | (simp; done)) | (simp; omega)), (by repeat (first | exact Below.refl _ _ | apply below_alloc | apply pw_below_drewN | apply below_drew1 | (refine Below.setCell ?_ (by first | (simp; done) | (simp; omega) | omega) _) | exact hBzz))⟩
                          · by_cases g3 : x.flags < 0
                            · have hR11 := hbdh.out (hbd2 (.inr (.inr (.inl g3))))
                              subst hR11
                              clear hbd2 hgd2
                              go_wp2_with fail
                              go_quiet ((go_at_call 52; first | exact quiet_eq (in_yes _ _ _ _ (by omega) (by omega)) | exact quiet_eq (in_no _ _ _ _ (by omega))))
                              go_wp2_with fail
                              go_ret
                              exact ⟨(by first | rfl | (simp; done) | (simp [*]; done) | (rw [if_pos (by omega)]; first | rfl | (simp; done)) | (rw [if_neg (by omega)]; first | rfl | (simp; done)) | (simp; omega)), (by repeat (first | exact Below.refl _ _ | apply below_alloc | apply pw_below_drewN | apply below_drew1 | (refine Below.setCell ?_ (by first | (simp; done) | (simp; omega) | omega) _) | exact hBzz))⟩
                            · by_cases g4 : 31 < x.flags
                              · have hR11 := hbdh.out (hbd2 (.inr (.inr (.inr (.inl g4)))))
                                subst hR11
                                clear hbd2 hgd2
                                go_wp2_with fail
                                go_quiet ((go_at_call 52; first | exact quiet_eq (in_yes _ _ _ _ (by omega) (by omega)) | exact quiet_eq (in_no _ _ _ _ (by omega))))
                                go_wp2_with fail
                                go_ret
                                exact ⟨(by first | rfl | (simp; done) | (simp [*]; done) | (rw [if_pos (by omega)]; first | rfl | (simp; done)) | (rw [if_neg (by omega)]; first | rfl | (simp; done)) | (simp; omega)), (by repeat (first | exact Below.refl _ _ | apply below_alloc | apply pw_below_drewN | apply below_drew1 | (refine Below.setCell ?_ (by first | (simp; done) | (simp; omega) | omega) _) | exact hBzz))⟩
                              · by_cases g5 : 2000 < x.text.size
                                · have g5' : (2000 : Int) < (x.text.size : Int) := by omega
                                  have hR11 := hbdh.out (hbd2 (.inr (.inr (.inr (.inr g5)))))
                                  subst hR11
                                  clear hbd2 hgd2
                                  go_wp2_with fail
                                  go_quiet ((go_at_call 52; first | exact quiet_eq (in_yes _ _ _ _ (by omega) (by omega)) | exact quiet_eq (in_no _ _ _ _ (by omega))))
                                  go_wp2_with fail
                                  go_ret
                                  exact ⟨(by first | rfl | (simp; done) | (simp [*]; done) | (rw [if_pos (by omega)]; first | rfl | (simp; done)) | (rw [if_neg (by omega)]; first | rfl | (simp; done)) | (simp; omega)), (by repeat (first | exact Below.refl _ _ | apply below_alloc | apply pw_below_drewN | apply below_drew1 | (refine Below.setCell ?_ (by first | (simp; done) | (simp; omega) | omega) _) | exact hBzz))⟩
                                · have g5' : ¬ (2000 : Int) < (x.text.size : Int) := by omega
                                  have hn2 := Lib.hid (hgd2 (by intro h; rcases h with h | h | h | h | h <;> omega))
                                  clear hbd2 hgd2
                                  go_wp2_with fail
                                  go_quiet ((go_at_call 52; first | exact quiet_eq (in_yes _ _ _ _ (by omega) (by omega)) | exact quiet_eq (in_no _ _ _ _ (by omega))))
                                  go_wp2_with fail
                                  go_roundw
                                  case rel => exact ⟨(i + 1) + 1, x.uid, hlj, by go_num, by rw [← hn2.out], by omega, fun h => by omega, fun h h2 => by simp only [Nat.add_sub_cancel]; rw [hlx.out], hXz.below (show Below wr.heap.size wr _ from (by repeat (first | exact Below.refl _ _ | apply below_alloc | apply pw_below_drewN | apply below_drew1 | (refine Below.setCell ?_ (by first | (simp; done) | (simp; omega) | omega) _) ))) (by omega), hblkz.below (show Below wr.heap.size wr _ from (by repeat (first | exact Below.refl _ _ | apply below_alloc | apply pw_below_drewN | apply below_drew1 | (refine Below.setCell ?_ (by first | (simp; done) | (simp; omega) | omega) _) ))) (by omega), Below.trans hBz (Below.mono (show Below wr.heap.size wr _ from (by repeat (first | exact Below.refl _ _ | apply below_alloc | apply pw_below_drewN | apply below_drew1 | (refine Below.setCell ?_ (by first | (simp; done) | (simp; omega) | omega) _) ))) hBz.size)⟩
                                  case measure => simp [intOf]; omega
                  · obtain rfl : j = l.length := by omega
                    rw [mails_end] at hmo
                    have hst := hgdh.out hmo.symm
                    have j1 : ¬ (l.length : Int) < (l.length : Int) := by omega
                    have hyes2 := hyes.out
                    have hno2 := hno.out
                    rw [hst] at hyes2 hno2
                    replace hyes2 := Lib.hid hyes2
                    replace hno2 := Lib.hid hno2
                    clear hst hmo hjp hj0
                    go_wp2_with fail
                    go_roundw
                    case rel => exact ⟨k + 1, hlt, by go_num, hyes2.out, hno2.out, hblkz, hBzz⟩
                    case measure => simp [intOf]; omega
          · have hR11 := hno (hbd (fun h => hfi h.2))
            subst hR11
            have hfi' : 0 ≤ fi := by omega
            clear hbd hgd hyes hno hn
            go_wp2_with fail
            go_quiet ((first | (go_at_call 50; exact quiet_eq (HN.out _)) | (go_at_call 51; exact quiet_eq (HF.out _ (Kd.C_below hCq (by first | exact Below.refl _ _ | exact pw_below_drewN (Below.refl _ _) _)))) | (go_at_call 52; first | exact quiet_eq (in_yes _ _ _ _ (by omega) (by omega)) | exact quiet_eq (in_no _ _ _ _ (by omega)))))
            go_wp2_with fail
            go_ret
            exact ⟨(by first | rfl | (simp; done) | (simp [*]; done) | (rw [if_pos (by omega)]; first | rfl | (simp; done)) | (rw [if_neg (by omega)]; first | rfl | (simp; done)) | (simp; omega)), (by repeat (first | exact Below.refl _ _ | apply below_alloc | apply pw_below_drewN | apply below_drew1 | (refine Below.setCell ?_ (by first | (simp; done) | (simp; omega) | omega) _) | exact hB))⟩
        · have hR11 := hno (hbd (fun h => by have := h.1; unfold boxOk at this; rw [if_pos (.inl hn)] at this; cases this))
          subst hR11
          generalize nameFault nm = f at *
          have hfb : (f != 0) = true := by simp [hn]
          replace HN := Lib.hid HN
          clear hbd hgd hyes hno hn
          go_wp2_with fail
          go_quiet ((first | (go_at_call 50; exact quiet_eq (HN.out _)) | (go_at_call 51; exact quiet_eq (HF.out _ (Kd.C_below hCq (by first | exact Below.refl _ _ | exact pw_below_drewN (Below.refl _ _) _)))) | (go_at_call 52; first | exact quiet_eq (in_yes _ _ _ _ (by omega) (by omega)) | exact quiet_eq (in_no _ _ _ _ (by omega)))))
          go_wp2_with fail
          go_ret
          exact ⟨(by first | rfl | (simp; done) | (simp [*]; done) | (rw [if_pos (by omega)]; first | rfl | (simp; done)) | (rw [if_neg (by omega)]; first | rfl | (simp; done)) | (simp; omega)), (by repeat (first | exact Below.refl _ _ | apply below_alloc | apply pw_below_drewN | apply below_drew1 | (refine Below.setCell ?_ (by first | (simp; done) | (simp; omega) | omega) _) | exact hB))⟩
      · obtain rfl : k = bs.length := by omega
        have i1 : ¬ (bs.length : Int) < (bs.length : Int) := by omega
        have hall := hyes (boxes_end (by omega))
        have b1 := hblk.at 1 _ rfl
        rw [stTail, if_pos hall] at hR
        have htot : stSize bs ≤ 1000000 := by
          have h1 := boxes_sz bs.length 0 (by omega) hall
          have h2 : (bs.length - 0) * 60000 ≤ 5 * 60000 := Nat.mul_le_mul_right _ (by omega)
          rw [List.drop_zero] at h1; omega
        clear hyes hno hall
        replace hR := Lib.hid hR
        go_wp2_with fail
        go_loopw [7] (fun i wr => ∃ k : Nat, k ≤ es.length ∧ i = .int .i64 k ∧ spoolOk (es.drop k) = spoolOk es ∧ Blk wr w.heap.size [.slice A bs.length c, .slice A2 es.length c2] ∧ Below w.heap.size w wr) (fun i _ => es.length - (intOf i).toNat)
        case atStart => exact ⟨0, Nat.zero_le _, rfl, rfl, hblk, hB⟩
        case round =>
          clear hblk hB b0 b1 hz
          obtain ⟨k, hk, rfl, hsp, hblk, hB⟩ := hrel
          have hz := hblk.lt
          have b0 := hblk.at 0 _ rfl
          have b1 := hblk.at 1 _ rfl
          by_cases hlt : k < es.length
          · obtain ⟨ad, e1, hx0, hxj⟩ := flat_at (Kd.C_below hr2 hB) k hlt
            subst e1
            have q0 := hx0 _ rfl; have q1 := hxj 1 _ (by decide) rfl; have q2 := hxj 2 _ (by decide) rfl; have q3 := hxj 3 _ (by decide) rfl; have q4 := hxj 4 _ (by decide) rfl; have q5 := hxj 5 _ (by decide) rfl
            clear hx0 hxj
            obtain ⟨s1, s2, s3⟩ := hs.2 _ (List.getElem_mem hlt)
            have hbd := fun h => spool_bad hlt h
            have hgd := fun h h2 => spool_good hlt h h2
            rw [hsp] at hbd hgd
            have i0 : (0 : Int) ≤ (k : Int) := by omega
            have j1 : (k : Int) < (es.length : Int) := by omega
            generalize es[k] = x at *
            have HF := fun w => entryFault_calls x w s1 s2 s3
            by_cases hk6 : x.kind = 6
            · by_cases hf : entryFault x = 0
              · rw [hf] at HF
                have hn := hgd hk6 hf
                replace hn := Lib.hid hn
                replace HF := Lib.hid HF
                have hkb : (x.kind != 6) = false := by simp [hk6]
                clear hbd hgd hf hsp hk6
                go_wp2_with fail
                refine (HF.out _).mono ?_
                rintro e w2 ⟨rfl, hc2⟩
                have hb2 : Below wr.heap.size wr w2 := (by repeat (first | exact Below.refl _ _ | apply below_alloc | apply pw_below_drewN | apply below_drew1 | (refine Below.setCell ?_ (by first | (simp; done) | (simp; omega) | omega) _) | (refine below_then ?_ (by first | (simp; done) | (simp; omega) | omega) hc2)))
                have hblk2 := hblk.below hb2 hz
                have hB2 := hB.trans (hb2.mono (by omega))
                clear hc2 hb2 hblk
                go_wp2_with fail
                go_roundw
                case rel => exact ⟨k + 1, hlt, by go_num, hn.out.symm, hblk2, hB2⟩
                case measure => simp [intOf]; omega
              · have hR2 := hR.out
                rw [hbd (fun h => hf h.2), if_neg (by decide)] at hR2
                subst hR2
                generalize entryFault x = f at *
                have hfb : (f != 0) = true := by simp [hf]
                replace HF := Lib.hid HF
                have hkb : (x.kind != 6) = false := by simp [hk6]
                clear hbd hgd hf hsp hk6
                go_wp2_with fail
                refine (HF.out _).mono ?_
                rintro e w2 ⟨rfl, hc2⟩
                have hB2 : Below w.heap.size w w2 := (by repeat (first | exact Below.refl _ _ | apply below_alloc | apply pw_below_drewN | apply below_drew1 | (refine Below.setCell ?_ (by first | (simp; done) | (simp; omega) | omega) _) | (refine below_then ?_ (by first | (simp; done) | (simp; omega) | omega) hc2) | exact hB))
                go_wp2_with fail
                go_ret
                exact ⟨(by first | rfl | (simp; done) | (simp [*]; done) | (rw [if_pos (by omega)]; first | rfl | (simp; done)) | (rw [if_neg (by omega)]; first | rfl | (simp; done)) | (simp; omega)), hB2⟩
            · have hR2 := hR.out
              rw [hbd (fun h => hk6 h.1), if_neg (by decide)] at hR2
              subst hR2
              have hkb : (x.kind != 6) = true := by simp [hk6]
              clear hbd hgd hsp HF
              go_wp2_with fail
              go_ret
              exact ⟨(by first | rfl | (simp; done) | (simp [*]; done) | (rw [if_pos (by omega)]; first | rfl | (simp; done)) | (rw [if_neg (by omega)]; first | rfl | (simp; done)) | (simp; omega)), (by repeat (first | exact Below.refl _ _ | apply below_alloc | apply pw_below_drewN | apply below_drew1 | (refine Below.setCell ?_ (by first | (simp; done) | (simp; omega) | omega) _) | exact hB))⟩
          · obtain rfl : k = es.length := by omega
            rw [spool_end] at hsp
            have hR2 := hR.out
            rw [← hsp, if_pos rfl] at hR2
            have j1 : ¬ (es.length : Int) < (es.length : Int) := by omega
            have HS := Lib.hid (bytesOf_calls A c bs (.slice A2 es.length c2) wr ⟨_, _, _, rfl⟩ (Kd.C_below hr hB) htot)
            clear hsp hR
            by_cases hbig : 6000 < stSize bs
            · rw [if_pos hbig] at hR2
              subst hR2
              have hbig' : (6000 : Int) < ((stSize bs : Nat) : Int) := by omega
              go_wp2_with fail
              refine HS.out.mono ?_
              rintro e w2 ⟨rfl, hb2⟩
              go_wp2_with fail
              go_ret
              exact ⟨(by first | rfl | (simp; done) | (simp [*]; done) | (rw [if_pos (by omega)]; first | rfl | (simp; done)) | (rw [if_neg (by omega)]; first | rfl | (simp; done)) | (simp; omega)), hB.trans (hb2.mono hB.size)⟩
            · rw [if_neg hbig] at hR2
              subst hR2
              have hbig' : ¬ (6000 : Int) < ((stSize bs : Nat) : Int) := by omega
              go_wp2_with fail
              refine HS.out.mono ?_
              rintro e w2 ⟨rfl, hb2⟩
              go_wp2_with fail
              go_ret
              exact ⟨(by first | rfl | (simp; done) | (simp [*]; done) | (rw [if_pos (by omega)]; first | rfl | (simp; done)) | (rw [if_neg (by omega)]; first | rfl | (simp; done)) | (simp; omega)), hB.trans (hb2.mono hB.size)⟩
end Go.Proofs.YtijdghplfhfpaaaDoor.H

/- Boxes: the reference's Entered. -/
namespace Go.Proofs.YtijdghplfhfpaaaDoor.H
open Go.RowKit Go.Proofs.YtijdghplfhfpaaaDoorW.PrintWords Go.Proofs.YtijdghplfhfpaaaDoorW.PrintLast Go.Proofs.YtijdghplfhfpaaaDoor.U
set_option linter.unusedVariables false
set_option linter.unusedSimpArgs false
def PostRead (w : World) (R : Int × List ABox × List AEntry) (e : Ending) (w' : World) : Prop :=
  ∃ A c A2 c2, e = .returned (.tuple #[.agg #[.slice A R.2.1.length c, .slice A2 R.2.2.length c2], .int .i64 R.1]) ∧ R.2.1.length ≤ c ∧ Rd (fun k => k < w.heap.size) w' A R.2.1 A2 R.2.2 ∧ Below w.heap.size w w'
set_option maxHeartbeats 2000000 in
set_option maxRecDepth 100000 in
theorem enteredTop_calls (A : Option Addr) (c : Nat) (bs : List ABox) (A2 : Option Addr) (c2 : Nat) (es : List AEntry) (Al : Option Addr) (cl : Nat) (l : List AEntry) (w : World) (hr : kBox.C w A bs.length bs) (hc : bs.length ≤ c) (hr2 : Kd.C kAEntry w A2 es.length es) (hs : okSt bs es)
    (hrl : Kd.C kAEntry w Al l.length l) (hsl : ∀ x ∈ l, okE x) :
    Calls Tryd.prog 20 #[.agg #[.slice A bs.length c, .slice A2 es.length c2], .slice Al l.length cl] w (PostRead w (allV bs es l)) := by
  have h63 := hrl.2.1
  obtain ⟨W2, hW2⟩ : ∃ W2 : World, W2 = (w.alloc (.cells #[.slice A bs.length c, .slice A2 es.length c2] 25)).alloc (.cells #[.slice none 0 0, .slice none 0 0] 25) := ⟨_, rfl⟩
  have hP0 : Blk W2 w.heap.size [.slice A bs.length c, .slice A2 es.length c2] := by rw [hW2]; exact (Blk.made w _ _).alloc _
  have hQ0 : Blk W2 (w.heap.size + 1) [.slice none 0 0, .slice none 0 0] := by rw [hW2]; exact Blk.made_at _ _ _ (by simp)
  have hB0 : Below w.heap.size w W2 := by rw [hW2]; exact (by repeat (first | exact Below.refl _ _ | apply below_alloc | apply pw_below_drewN | apply below_drew1 | (refine Below.setCell ?_ (by first | (simp; done) | (simp; omega) | omega) _) ))
  have hz0 : W2.heap.size = w.heap.size + 2 := by rw [hW2]; simp
  replace hW2 := Lib.hid hW2
  have HC := stateFault_calls A c bs A2 c2 es W2 (Kd.C_below hr hB0) hc (Kd.C_below hr2 hB0) hs
  by_cases hf : stFault bs es = 0
  · have hinv := inv_of_ok hs hf
    rw [hf] at HC
    replace HC := Lib.hid HC
    by_cases h10 : 10 < l.length
    · rw [show allV bs es l = (1, [], []) by rw [allV, if_neg (by rw [hf]; decide), if_pos h10]]
      have h10' : (10 : Int) < (l.length : Int) := by omega
      clear hf
      go_enter Tryd.func20, Tryd.ntmps20
      go_wp2_with fail
      rw [← hW2.out]
      refine HC.out.mono ?_
      rintro e w1 ⟨rfl, hb1⟩
      have hz1 := hb1.size
      have hQ1 := hQ0.below hb1 (by omega)
      have hB1 := hB0.trans (hb1.mono (by omega))
      have q0 := (hQ1).at 0 _ rfl
      have q1 := (hQ1).at 1 _ rfl
      have q2 := (hQ1).free 0 _ rfl
      have q3 := (hQ1).free 1 _ rfl
      go_wp2_with fail
      refine bodyPost_ret (v := .tuple #[.agg #[.slice none 0 0, .slice none 0 0], .int .i64 1]) (by simp [results, Tryd.results20, go_sem, *]) rfl ?_
      exact ⟨none, 0, none, 0, rfl, Nat.zero_le _, fun _ _ _ => ⟨C_none _ _, C_none _ _⟩, (by repeat (first | exact Below.refl _ _ | apply below_alloc | apply pw_below_drewN | apply below_drew1 | (refine Below.setCell ?_ (by first | (simp; done) | (simp; omega) | omega) _) | exact hB1))⟩
    · rw [show allV bs es l = foldE bs es l by rw [allV, if_neg (by rw [hf]; decide), if_neg h10]]
      have h10' : ¬ (10 : Int) < (l.length : Int) := by omega
      generalize hF : foldE bs es l = F
      replace hF := Lib.hid hF
      clear hf
      have hb30 : ∀ b ∈ bs, b.2.2.length ≤ 1048576 := fun b hb => by have := (hinv.2.2 b hb).2.2.2.1; omega
      have hi1 := hinv.1
      have hi2 := hinv.2.1
      have HO := Lib.hid (fun W h1 h2 => stateCopy_calls A c bs A2 c2 es W h1 h2 (by omega) (by omega) hb30)
      go_enter Tryd.func20, Tryd.ntmps20
      go_wp2_with fail
      rw [← hW2.out]
      refine HC.out.mono ?_
      rintro e w1 ⟨rfl, hb1⟩
      have hz1 := hb1.size
      have hP1 := hP0.below hb1 (by omega)
      have hQ1 := hQ0.below hb1 (by omega)
      have hB1 := hB0.trans (hb1.mono (by omega))
      have p10 := hP1.at 0 _ rfl
      have p11 := hP1.at 1 _ rfl
      clear hP0 hQ0 hB0 hb1
      go_wp2_with fail
      refine (HO.out _ (Kd.C_below hr hB1) (Kd.C_below hr2 hB1)).mono ?_
      rintro e w3 ⟨vB, vS, rfl, hS3, hE3, hb3⟩
      obtain ⟨Ab, cb, rfl, hcb, _⟩ := Kd.S_reads hS3
      obtain ⟨As, cs, rfl⟩ := Kd.R_slice hE3
      have hz3 := hb3.size
      obtain ⟨pb, hpbe⟩ : ∃ pb, pb = w3.heap.size := ⟨_, rfl⟩
      obtain ⟨W4, hW4⟩ : ∃ W4 : World, W4 = w3.alloc (.cells #[.slice Ab bs.length cb, .slice As es.length cs] 25) := ⟨_, rfl⟩
      have hQ4 : Blk W4 (w.heap.size + 1) [.slice none 0 0, .slice none 0 0] := by rw [hW4]; exact (hQ1.below hb3 (by omega)).alloc _
      have hO4 : Blk W4 pb [.slice Ab bs.length cb, .slice As es.length cs] := by rw [hW4, hpbe]; exact Blk.made _ _ _
      have hB4 : Below w.heap.size w W4 := by rw [hW4]; exact below_alloc' (hB1.trans (hb3.mono (by omega))) (by omega) _
      have hrd4 : Rd (fun k => k = pb ∨ k < w.heap.size + 2) W4 Ab bs As es := by
        rw [hW4, hpbe]
        exact Rd.own (Kd.S_below (Kd.S_bound hS3) (by repeat (first | exact Below.refl _ _ | apply below_alloc | apply pw_below_drewN | apply below_drew1 | (refine Below.setCell ?_ (by first | (simp; done) | (simp; omega) | omega) _) ))) (Kd.R_below (Kd.R_bound hE3) (by repeat (first | exact Below.refl _ _ | apply below_alloc | apply pw_below_drewN | apply below_drew1 | (refine Below.setCell ?_ (by first | (simp; done) | (simp; omega) | omega) _) ))) (fun k hk hb hz => by have := hk.2.2.1; rcases hz with h | h <;> omega) (fun k hk hb hz => by have := hk.2.2.1; rcases hz with h | h <;> omega)
      have hz4 : pb < W4.heap.size := hO4.lt
      have hpw : w.heap.size + 1 < pb := by omega
      replace hW4 := Lib.hid hW4
      replace hpbe := Lib.hid hpbe
      clear hP1 hQ1 hB1 p10 p11 hb3 hS3 hE3 hz3 hz1 hz0
      go_wp2_with fail
      rw [← hW4.out, ← hpbe.out]
      go_loopw [8] (fun i wr => ∃ (k : Nat) (bs' : List ABox) (es' : List AEntry) (A' : Option Addr) (c' : Nat) (A3 : Option Addr) (c3 : Nat), k ≤ l.length ∧ i = .int .i64 k ∧ foldE bs' es' (l.drop k) = F ∧ InvS bs' es' ∧ bs'.length ≤ c' ∧ Blk wr pb [.slice A' bs'.length c', .slice A3 es'.length c3] ∧ Rd (fun k => k = pb ∨ k < w.heap.size + 2) wr A' bs' A3 es' ∧ Blk wr (w.heap.size + 1) [.slice none 0 0, .slice none 0 0] ∧ Below w.heap.size w wr) (fun i _ => l.length - (intOf i).toNat)
      case atStart => exact ⟨0, bs, es, Ab, cb, As, cs, Nat.zero_le _, rfl, hF.out, hinv, hcb, hO4, hrd4, hQ4, hB4⟩
      case round =>
        clear hF hrd4 hO4 hQ4 hB4 hinv hi1 hi2 hcb
        obtain ⟨k, bs', es', A', c', A3, c3, hk, rfl, hF, hinv, hc', hO, hrd, hQ, hB⟩ := hrel
        have hzr := hO.lt
        have hqr := hQ.lt
        by_cases hlt : k < l.length
        · obtain ⟨ad, e1, hx0, hxj⟩ := flat_at (Kd.C_below hrl hB) k hlt
          subst e1
          have q0 := hx0 _ rfl; have q1 := hxj 1 _ (by decide) rfl; have q2 := hxj 2 _ (by decide) rfl; have q3 := hxj 3 _ (by decide) rfl; have q4 := hxj 4 _ (by decide) rfl; have q5 := hxj 5 _ (by decide) rfl
          clear hx0 hxj
          have hadr : (ad.add (k * 6)).block < wr.heap.size := lt_of_cell' q0
          obtain ⟨s1, s2, s3⟩ := hsl _ (List.getElem_mem hlt)
          have i0 : (0 : Int) ≤ (k : Int) := by omega
          have i1 : (k : Int) < (l.length : Int) := by omega
          have hff := fun h => fold_form (bs := bs') (es := es') hlt h
          have hfl := fun h h2 => fold_fail (bs := bs') (es := es') hlt h h2
          have hfs := fun h h2 => fold_step (bs := bs') (es := es') hlt h h2
          rw [hF] at hff hfl hfs
          clear hF
          generalize l[k] = x at *
          have HF := entryFault_calls x wr s1 s2 s3
          by_cases hxf : entryFault x = 0
          · rw [hxf] at HF
            replace HF := Lib.hid HF
            have HA := fun Z W h hZ => entered_calls Z x A' c' bs' A3 c3 es' W h hZ hc' hinv hxf
            have hinv2 := inv_ent hinv hxf
            generalize entV bs' es' x = R at *
            obtain ⟨rf, bs2, es2⟩ := R
            simp only at hfl hfs hinv2
            replace HA := Lib.hid HA
            clear hff
            replace hfl := Lib.hid (hfl hxf)
            replace hfs := Lib.hid (hfs hxf)
            clear hxf
            go_wp2_with fail
            refine HF.out.mono ?_
            rintro e w5 ⟨rfl, hb5⟩
            have hQ5 := hQ.below hb5 hqr
            have hO5 := hO.below hb5 hzr
            have hB5 := hB.trans (hb5.mono hB.size)
            have hrd5 := hrd.below hb5
            have hz5 := hb5.size
            have k0 := cell_drew' (hO5.at 0 _ rfl)
            have k1 := cell_drew' (hO5.at 1 _ rfl)
            have q0d := cell_drew' ((hb5.cell hadr).trans q0)
            have q1d := cell_drew' ((hb5.cell (p := ⟨(ad.add (k * 6)).block, (ad.add (k * 6)).off + 1, none⟩) hadr).trans q1)
            have q2d := cell_drew' ((hb5.cell (p := ⟨(ad.add (k * 6)).block, (ad.add (k * 6)).off + 2, none⟩) hadr).trans q2)
            have q3d := cell_drew' ((hb5.cell (p := ⟨(ad.add (k * 6)).block, (ad.add (k * 6)).off + 3, none⟩) hadr).trans q3)
            have q4d := cell_drew' ((hb5.cell (p := ⟨(ad.add (k * 6)).block, (ad.add (k * 6)).off + 4, none⟩) hadr).trans q4)
            have q5d := cell_drew' ((hb5.cell (p := ⟨(ad.add (k * 6)).block, (ad.add (k * 6)).off + 5, none⟩) hadr).trans q5)
            have hrdd : Rd (fun k => k = pb ∨ k < w.heap.size + 2) w5.drew A' bs' A3 es' := hrd5.below (show Below w5.heap.size w5 w5.drew from (by repeat (first | exact Below.refl _ _ | apply below_alloc | apply pw_below_drewN | apply below_drew1 | (refine Below.setCell ?_ (by first | (simp; done) | (simp; omega) | omega) _) )))
            clear q0 q1 q2 q3 q4 q5
            go_wp2_with fail
            have hOd := hO5.drew
            have hQd := hQ5.drew
            refine wp_region_held_drew (S := fun w' => w'.cell? ⟨pb, 0, none⟩ = some (.slice A' bs'.length c') ∧ w'.cell? ⟨pb, 1, none⟩ = some (.slice A3 es'.length c3) ∧ w'.cell? (ad.add (k * 6)) = some (.int .i64 x.kind) ∧ w'.cell? ⟨(ad.add (k * 6)).block, (ad.add (k * 6)).off + 1, none⟩ = some (.string x.box) ∧ w'.cell? ⟨(ad.add (k * 6)).block, (ad.add (k * 6)).off + 2, none⟩ = some (.int .i64 x.uid) ∧ w'.cell? ⟨(ad.add (k * 6)).block, (ad.add (k * 6)).off + 3, none⟩ = some (.int .i64 x.flags) ∧ w'.cell? ⟨(ad.add (k * 6)).block, (ad.add (k * 6)).off + 4, none⟩ = some (.string x.to_) ∧ w'.cell? ⟨(ad.add (k * 6)).block, (ad.add (k * 6)).off + 5, none⟩ = some (.string x.text)) (by kernel_rfl) ?_ (fun hHeld => ?_)
            · exact ⟨k0, k1, q0d, q1d, q2d, q3d, q4d, q5d⟩
            refine wpAnyH_take (i := 0) (oi := { dst := some 43, op := _, type := _, pos := _, after := _, guard := _ }) (v := .agg #[.slice A' bs'.length c', .slice A3 es'.length c3]) rfl (by kernel_rfl) (by kernel_rfl) (by kernel_rfl) (fun _ _ _ h => h) (Or.inl ⟨by rfl, by (intro w hSw; (try dsimp only at hSw); first | (go_simp; done) | (go_simp; with_reducible rfl) | (go_simp; omega) | (go_simp; simp [*]; done))⟩) (by assumption) ?_; try simp only [Act.put, List.setIfInBounds_toArray, List.set_cons_zero, List.set_cons_succ]
            refine wpAnyH_take (i := 1) (oi := { dst := some 44, op := _, type := _, pos := _, after := _, guard := _ }) (v := .slice (some ad) l.length cl) rfl (by kernel_rfl) (by kernel_rfl) (by kernel_rfl) (fun _ _ _ h => h) (Or.inl ⟨by rfl, by (intro w hSw; (try dsimp only at hSw); first | (go_simp; done) | (go_simp; with_reducible rfl) | (go_simp; omega) | (go_simp; simp [*]; done))⟩) (by assumption) ?_; try simp only [Act.put, List.setIfInBounds_toArray, List.set_cons_zero, List.set_cons_succ]
            refine wpAnyH_take (i := 2) (oi := { dst := some 45, op := _, type := _, pos := _, after := _, guard := _ }) (v := .int .i64 k) rfl (by kernel_rfl) (by kernel_rfl) (by kernel_rfl) (fun _ _ _ h => h) (Or.inl ⟨by rfl, by (intro w hSw; (try dsimp only at hSw); first | (go_simp; done) | (go_simp; with_reducible rfl) | (go_simp; omega) | (go_simp; simp [*]; done))⟩) (by assumption) ?_; try simp only [Act.put, List.setIfInBounds_toArray, List.set_cons_zero, List.set_cons_succ]
            refine wpAnyH_take (i := 3) (oi := { dst := some 46, op := _, type := _, pos := _, after := _, guard := _ }) (v := .pointer (some (ad.add (k * 6)))) rfl (by kernel_rfl) (by kernel_rfl) (by kernel_rfl) (fun _ _ _ h => h) (Or.inl ⟨by rfl, by (intro w hSw; (try dsimp only at hSw); first | (go_simp; done) | (go_simp; with_reducible rfl) | (go_simp; omega) | (go_simp; simp [*]; done))⟩) (by assumption) ?_; try simp only [Act.put, List.setIfInBounds_toArray, List.set_cons_zero, List.set_cons_succ]
            refine wpAnyH_take (i := 4) (oi := { dst := some 47, op := _, type := _, pos := _, after := _, guard := _ }) (v := .agg #[.int .i64 x.kind, .string x.box, .int .i64 x.uid, .int .i64 x.flags, .string x.to_, .string x.text]) rfl (by kernel_rfl) (by kernel_rfl) (by kernel_rfl) (fun _ _ _ h => h) (Or.inl ⟨by rfl, by (intro w hSw; (try dsimp only at hSw); first | (go_simp; done) | (go_simp; with_reducible rfl) | (go_simp; omega) | (go_simp; simp [*]; done))⟩) (by assumption) ?_; try simp only [Act.put, List.setIfInBounds_toArray, List.set_cons_zero, List.set_cons_succ]
            refine wpAnyH_ready (rs := [5, 9]) (by kernel_rfl) (by simp) ?_
            refine AllReadyH.cons (o := { dst := some 48, op := _, type := _, pos := _, after := _, guard := _ }) rfl (fun K hK => ?_) (AllReadyH.cons (o := { dst := some 10, op := _, type := _, pos := _, after := _, guard := _ }) rfl (fun K hK => ?_) AllReadyH.nil)
            · go_simp
              go_at_call 57
              refine (HA.out (fun k => k = pb ∨ k < w.heap.size + 2) _ hrdd (fun k hk => by rcases hk with hk | hk <;> (simp; omega))).mono ?_
              rintro e w6 ⟨A6, c6, A7, c7, rfl, hc6, hrd6, hb6⟩
              (try simp only at hc6 hrd6 ⊢)
              have z0 := (hb6.cell (lt_of_cell' k0)).trans k0
              have z1 := (hb6.cell (lt_of_cell' k1)).trans k1
              have r0 := (hb6.cell (lt_of_cell' q0d)).trans q0d
              have r1 := (hb6.cell (lt_of_cell' q1d)).trans q1d
              have r2 := (hb6.cell (lt_of_cell' q2d)).trans q2d
              have r3 := (hb6.cell (lt_of_cell' q3d)).trans q3d
              have r4 := (hb6.cell (lt_of_cell' q4d)).trans q4d
              have r5 := (hb6.cell (lt_of_cell' q5d)).trans q5d
              have hz6 : w5.heap.size ≤ w6.heap.size := by have := hb6.size; simpa using this
              (try simp only [Result.andThen])
              refine hK.out _ _ ⟨z0, z1, r0, r1, r2, r3, r4, r5⟩ (fun hHeld => ?_)
              clear hK K
              skip
              refine wpAnyH_take (i := 6) (oi := { dst := some 42, op := _, type := _, pos := _, after := _, guard := _ }) (v := .tuple #[.agg #[.slice A6 bs2.length c6, .slice A7 es2.length c7], .int .i64 rf]) rfl (by kernel_rfl) (by kernel_rfl) (by kernel_rfl) (fun _ _ _ h => h) (Or.inl ⟨by rfl, by (intro w hSw; (try dsimp only at hSw); first | (go_simp; done) | (go_simp; with_reducible rfl) | (go_simp; omega) | (go_simp; simp [*]; done))⟩) (by assumption) ?_; try simp only [Act.put, List.setIfInBounds_toArray, List.set_cons_zero, List.set_cons_succ]
              refine wpAnyH_take (i := 7) (oi := { dst := some 49, op := _, type := _, pos := _, after := _, guard := _ }) (v := .agg #[.slice A6 bs2.length c6, .slice A7 es2.length c7]) rfl (by kernel_rfl) (by kernel_rfl) (by kernel_rfl) (fun _ _ _ h => h) (Or.inl ⟨by rfl, by (intro w hSw; (try dsimp only at hSw); first | (go_simp; done) | (go_simp; with_reducible rfl) | (go_simp; omega) | (go_simp; simp [*]; done))⟩) (by assumption) ?_; try simp only [Act.put, List.setIfInBounds_toArray, List.set_cons_zero, List.set_cons_succ]
              refine wpAnyH_take (i := 8) (oi := { dst := some 50, op := _, type := _, pos := _, after := _, guard := _ }) (v := .int .i64 rf) rfl (by kernel_rfl) (by kernel_rfl) (by kernel_rfl) (fun _ _ _ h => h) (Or.inl ⟨by rfl, by (intro w hSw; (try dsimp only at hSw); first | (go_simp; done) | (go_simp; with_reducible rfl) | (go_simp; omega) | (go_simp; simp [*]; done))⟩) (by assumption) ?_; try simp only [Act.put, List.setIfInBounds_toArray, List.set_cons_zero, List.set_cons_succ]
              refine wpAnyH_ready (rs := [9]) (by kernel_rfl) (by simp) ?_
              refine AllReadyH.cons (o := { dst := some 10, op := _, type := _, pos := _, after := _, guard := _ }) rfl (fun K hK => ?_) AllReadyH.nil
              go_simp
              refine hK.out _ _ ⟨cell_alloc' z0 _, cell_alloc' z1 _, cell_alloc' r0 _, cell_alloc' r1 _, cell_alloc' r2 _, cell_alloc' r3 _, cell_alloc' r4 _, cell_alloc' r5 _⟩ (fun hHeld => ?_)
              clear hK K
              obtain ⟨W7, hW7⟩ : ∃ W7 : World, W7 = w6.alloc (.cells #[.slice none 0 0, .slice none 0 0] 25) := ⟨_, rfl⟩
              have hbW : Below w6.heap.size w6 W7 := by rw [hW7]; exact (by repeat (first | exact Below.refl _ _ | apply below_alloc | apply pw_below_drewN | apply below_drew1 | (refine Below.setCell ?_ (by first | (simp; done) | (simp; omega) | omega) _) ))
              have hT7 : Blk W7 w6.heap.size [.slice none 0 0, .slice none 0 0] := by rw [hW7]; exact Blk.made _ _ _
              have hO7 := (hOd.below hb6 hOd.lt).below hbW (by omega)
              have hQ7 := (hQd.below hb6 hQd.lt).below hbW (by omega)
              have hrd7 := hrd6.step (Z' := fun k => (k = pb ∨ k < w.heap.size + 2) ∨ k = w6.heap.size) hbW.size (fun k _ hlt => hbW.block k hlt) (fun k hk hz => hz.elim id (fun h => by omega))
              have hB7 : Below w.heap.size w W7 := (hB5.trans ((Below.trans (show Below w5.heap.size w5 w5.drew from (by repeat (first | exact Below.refl _ _ | apply below_alloc | apply pw_below_drewN | apply below_drew1 | (refine Below.setCell ?_ (by first | (simp; done) | (simp; omega) | omega) _) ))) (hb6.mono (by simp))).mono hB5.size)).trans (hbW.mono (by omega))
              replace z0 := (hbW.cell (lt_of_cell' z0)).trans z0
              replace z1 := (hbW.cell (lt_of_cell' z1)).trans z1
              replace r0 := (hbW.cell (lt_of_cell' r0)).trans r0
              replace r1 := (hbW.cell (lt_of_cell' r1)).trans r1
              replace r2 := (hbW.cell (lt_of_cell' r2)).trans r2
              replace r3 := (hbW.cell (lt_of_cell' r3)).trans r3
              replace r4 := (hbW.cell (lt_of_cell' r4)).trans r4
              replace r5 := (hbW.cell (lt_of_cell' r5)).trans r5
              have hTb : pb < w6.heap.size ∧ w.heap.size + 1 < w6.heap.size ∧ (ad.add (k * 6)).block < w6.heap.size := ⟨by omega, by omega, by omega⟩
              rw [← hW7]
              generalize w6.heap.size = T at *
              replace hW7 := Lib.hid hW7
              obtain ⟨hTb1, hTb2, hTb3⟩ := hTb
              have nn1 : pb ≠ T := by omega
              have nn2 : w.heap.size + 1 ≠ T := by omega
              have nn3 : (ad.add (k * 6)).block ≠ T := by omega
              have v0 := hT7.at 0 _ rfl
              have v1 := hT7.at 1 _ rfl
              have v2 := hT7.free 0 _ rfl
              have v3 := hT7.free 1 _ rfl
              refine wpAnyH_ready (rs := [10]) (by kernel_rfl) (by simp) ?_
              refine AllReadyH.cons (o := { dst := none, op := _, type := _, pos := _, after := _, guard := _ }) rfl (fun K hK => ?_) AllReadyH.nil
              go_simp
              have hT8 := (hT7.set 0 (.slice A6 bs2.length c6) (by simp)).set 1 (.slice A7 es2.length c7) (by simp)
              have hO8 := (hO7.other (c := T) (j := 0) (Ne.symm nn1) (.slice A6 bs2.length c6)).other (c := T) (j := 1) (Ne.symm nn1) (.slice A7 es2.length c7)
              have hQ8 := (hQ7.other (c := T) (j := 0) (Ne.symm nn2) (.slice A6 bs2.length c6)).other (c := T) (j := 1) (Ne.symm nn2) (.slice A7 es2.length c7)
              have hrd8 := ((hrd7.stored (r := T) (.inr rfl) 0 (.slice A6 bs2.length c6)).stored (r := T) (.inr rfl) 1 (.slice A7 es2.length c7)).less (Z' := fun k => k = pb ∨ k < w.heap.size + 2) (fun k hk => .inl hk)
              have hB8 := Below.setCell (p := ⟨T, 1, none⟩) (Below.setCell (p := ⟨T, 0, none⟩) hB7 (show w.heap.size ≤ T by omega) (.slice A6 bs2.length c6)) (show w.heap.size ≤ T by omega) (.slice A7 es2.length c7)
              refine hK.out _ _ ⟨hO8.at 0 _ rfl, hO8.at 1 _ rfl, cell_other' (cell_other' r0 nn3 _) nn3 _, cell_other' (cell_other' r1 (c := T) (j := 0) nn3 _) (c := T) (j := 1) nn3 _, cell_other' (cell_other' r2 (c := T) (j := 0) nn3 _) (c := T) (j := 1) nn3 _, cell_other' (cell_other' r3 (c := T) (j := 0) nn3 _) (c := T) (j := 1) nn3 _, cell_other' (cell_other' r4 (c := T) (j := 0) nn3 _) (c := T) (j := 1) nn3 _, cell_other' (cell_other' r5 (c := T) (j := 0) nn3 _) (c := T) (j := 1) nn3 _⟩ (fun hHeld => ?_)
              clear hK K
              refine wpAnyH_take (i := 11) (oi := { dst := some 11, op := _, type := _, pos := _, after := _, guard := _ }) (v := .int .i64 rf) rfl (by kernel_rfl) (by kernel_rfl) (by kernel_rfl) (fun _ _ _ h => h) (Or.inl ⟨by rfl, by (intro w hSw; (try dsimp only at hSw); first | (go_simp; done) | (go_simp; with_reducible rfl) | (go_simp; omega) | (go_simp; simp [*]; done))⟩) (by assumption) ?_; try simp only [Act.put, List.setIfInBounds_toArray, List.set_cons_zero, List.set_cons_succ]
              refine wpAnyH_done (by kernel_rfl) ?_ _
              generalize (W7.setCell ⟨T, 0, none⟩ (.slice A6 bs2.length c6)).setCell ⟨T, 1, none⟩ (.slice A7 es2.length c7) = W8 at *
              clear z0 z1 r0 r1 r2 r3 r4 r5 v0 v1 v2 v3
              by_cases hen : rf = 0
              · have hF2 := Lib.hid (hfs.out hen).symm
                have hrb : (rf != 0) = false := by simp [hen]
                clear hen hfl hfs
                have y0 := hO8.free 0 _ rfl
                have y1 := hO8.free 1 _ rfl
                have y2 := hO8.at 0 _ rfl
                have y3 := hO8.at 1 _ rfl
                have t0 := hT8.at 0 _ rfl
                have t1 := hT8.at 1 _ rfl
                go_wp2_with fail
                go_roundw
                case rel => exact ⟨k + 1, bs2, es2, A6, c6, A7, c7, hlt, by go_num, hF2.out, hinv2, hc6, (hO8.set 0 _ (by simp)).set 1 _ (by simp), (hrd8.stored (.inl rfl) 0 _).stored (.inl rfl) 1 _, (hQ8.other (by omega) _).other (by omega) _, (by repeat (first | exact Below.refl _ _ | apply below_alloc | apply pw_below_drewN | apply below_drew1 | (refine Below.setCell ?_ (by first | (simp; done) | (simp; omega) | omega) _) | exact hB8))⟩
                case measure => simp [intOf]; omega
              · have hF2 := hfl.out hen
                subst hF2
                have hrb : (rf != 0) = true := by simp [hen]
                clear hen hfs hfl
                have q0 := (hQ8).at 0 _ rfl
                have q1 := (hQ8).at 1 _ rfl
                have q2 := (hQ8).free 0 _ rfl
                have q3 := (hQ8).free 1 _ rfl
                go_wp2_with fail
                refine bodyPost_ret (v := .tuple #[.agg #[.slice none 0 0, .slice none 0 0], .int .i64 rf]) (by simp [results, Tryd.results20, go_sem, *]) rfl ?_
                exact ⟨none, 0, none, 0, rfl, Nat.zero_le _, fun _ _ _ => ⟨C_none _ _, C_none _ _⟩, (by repeat (first | exact Below.refl _ _ | apply below_alloc | apply pw_below_drewN | apply below_drew1 | (refine Below.setCell ?_ (by first | (simp; done) | (simp; omega) | omega) _) | exact hB8))⟩
            · go_simp
              refine hK.out _ _ ⟨cell_alloc' k0 _, cell_alloc' k1 _, cell_alloc' q0d _, cell_alloc' q1d _, cell_alloc' q2d _, cell_alloc' q3d _, cell_alloc' q4d _, cell_alloc' q5d _⟩ (fun hHeld => ?_)
              clear hK K
              obtain ⟨Wa, hWa⟩ : ∃ Wa : World, Wa = w5.drew.alloc (.cells #[.slice none 0 0, .slice none 0 0] 25) := ⟨_, rfl⟩
              have hbW : Below w5.drew.heap.size w5.drew Wa := by rw [hWa]; exact (by repeat (first | exact Below.refl _ _ | apply below_alloc | apply pw_below_drewN | apply below_drew1 | (refine Below.setCell ?_ (by first | (simp; done) | (simp; omega) | omega) _) ))
              have hTa : Blk Wa w5.heap.size [.slice none 0 0, .slice none 0 0] := by rw [hWa]; exact Blk.made_at _ _ _ (by simp)
              have hOa := hOd.below hbW hOd.lt
              have hQa := hQd.below hbW hQd.lt
              have hrda := hrdd.step (Z' := fun k => (k = pb ∨ k < w.heap.size + 2) ∨ k = w5.heap.size) hbW.size (fun k _ hlt => hbW.block k hlt) (fun k hk hz => hz.elim id (fun h => by simp at hk; omega))
              have hBa : Below w.heap.size w Wa := (hB5.trans ((show Below w5.heap.size w5 w5.drew from (by repeat (first | exact Below.refl _ _ | apply below_alloc | apply pw_below_drewN | apply below_drew1 | (refine Below.setCell ?_ (by first | (simp; done) | (simp; omega) | omega) _) ))).mono hB5.size)).trans (hbW.mono (by simp; omega))
              replace k0 := (hbW.cell (lt_of_cell' k0)).trans k0
              replace k1 := (hbW.cell (lt_of_cell' k1)).trans k1
              replace q0d := (hbW.cell (lt_of_cell' q0d)).trans q0d
              replace q1d := (hbW.cell (lt_of_cell' q1d)).trans q1d
              replace q2d := (hbW.cell (lt_of_cell' q2d)).trans q2d
              replace q3d := (hbW.cell (lt_of_cell' q3d)).trans q3d
              replace q4d := (hbW.cell (lt_of_cell' q4d)).trans q4d
              replace q5d := (hbW.cell (lt_of_cell' q5d)).trans q5d
              have hTb : pb < w5.heap.size ∧ w.heap.size + 1 < w5.heap.size ∧ (ad.add (k * 6)).block < w5.heap.size := ⟨by omega, by omega, by omega⟩
              have hza := hbW.size
              simp at hza
              rw [show (w5.alloc (.cells #[.slice none 0 0, .slice none 0 0] 25)).drew = w5.drew.alloc (.cells #[.slice none 0 0, .slice none 0 0] 25) from rfl, ← hWa]
              generalize w5.heap.size = T at *
              replace hWa := Lib.hid hWa
              refine wpAnyH_ready (rs := [5]) (by kernel_rfl) (by simp) ?_
              refine AllReadyH.cons (o := { dst := some 48, op := _, type := _, pos := _, after := _, guard := _ }) rfl (fun K hK => ?_) AllReadyH.nil
              go_simp
              go_at_call 57
              refine (HA.out (fun k => (k = pb ∨ k < w.heap.size + 2) ∨ k = T) _ hrda (fun k hk => by have := hTa.lt; rcases hk with (hk | hk) | hk <;> omega)).mono ?_
              rintro e W7 ⟨A6, c6, A7, c7, rfl, hc6, hrd7, hb6⟩
              (try simp only at hc6 hrd7 ⊢)
              have z0 := (hb6.cell (lt_of_cell' k0)).trans k0
              have z1 := (hb6.cell (lt_of_cell' k1)).trans k1
              have r0 := (hb6.cell (lt_of_cell' q0d)).trans q0d
              have r1 := (hb6.cell (lt_of_cell' q1d)).trans q1d
              have r2 := (hb6.cell (lt_of_cell' q2d)).trans q2d
              have r3 := (hb6.cell (lt_of_cell' q3d)).trans q3d
              have r4 := (hb6.cell (lt_of_cell' q4d)).trans q4d
              have r5 := (hb6.cell (lt_of_cell' q5d)).trans q5d
              have hz6 := hb6.size
              have hT7 := hTa.below hb6 hTa.lt
              have hO7 := hOa.below hb6 hOa.lt
              have hQ7 := hQa.below hb6 hQa.lt
              have hB7 := hBa.trans (hb6.mono hBa.size)
              (try simp only [Result.andThen])
              refine hK.out _ _ ⟨z0, z1, r0, r1, r2, r3, r4, r5⟩ (fun hHeld => ?_)
              clear hK K
              skip
              refine wpAnyH_take (i := 6) (oi := { dst := some 42, op := _, type := _, pos := _, after := _, guard := _ }) (v := .tuple #[.agg #[.slice A6 bs2.length c6, .slice A7 es2.length c7], .int .i64 rf]) rfl (by kernel_rfl) (by kernel_rfl) (by kernel_rfl) (fun _ _ _ h => h) (Or.inl ⟨by rfl, by (intro w hSw; (try dsimp only at hSw); first | (go_simp; done) | (go_simp; with_reducible rfl) | (go_simp; omega) | (go_simp; simp [*]; done))⟩) (by assumption) ?_; try simp only [Act.put, List.setIfInBounds_toArray, List.set_cons_zero, List.set_cons_succ]
              refine wpAnyH_take (i := 7) (oi := { dst := some 49, op := _, type := _, pos := _, after := _, guard := _ }) (v := .agg #[.slice A6 bs2.length c6, .slice A7 es2.length c7]) rfl (by kernel_rfl) (by kernel_rfl) (by kernel_rfl) (fun _ _ _ h => h) (Or.inl ⟨by rfl, by (intro w hSw; (try dsimp only at hSw); first | (go_simp; done) | (go_simp; with_reducible rfl) | (go_simp; omega) | (go_simp; simp [*]; done))⟩) (by assumption) ?_; try simp only [Act.put, List.setIfInBounds_toArray, List.set_cons_zero, List.set_cons_succ]
              refine wpAnyH_take (i := 8) (oi := { dst := some 50, op := _, type := _, pos := _, after := _, guard := _ }) (v := .int .i64 rf) rfl (by kernel_rfl) (by kernel_rfl) (by kernel_rfl) (fun _ _ _ h => h) (Or.inl ⟨by rfl, by (intro w hSw; (try dsimp only at hSw); first | (go_simp; done) | (go_simp; with_reducible rfl) | (go_simp; omega) | (go_simp; simp [*]; done))⟩) (by assumption) ?_; try simp only [Act.put, List.setIfInBounds_toArray, List.set_cons_zero, List.set_cons_succ]
              obtain ⟨hTb1, hTb2, hTb3⟩ := hTb
              have nn1 : pb ≠ T := by omega
              have nn2 : w.heap.size + 1 ≠ T := by omega
              have nn3 : (ad.add (k * 6)).block ≠ T := by omega
              have v0 := hT7.at 0 _ rfl
              have v1 := hT7.at 1 _ rfl
              have v2 := hT7.free 0 _ rfl
              have v3 := hT7.free 1 _ rfl
              refine wpAnyH_ready (rs := [10]) (by kernel_rfl) (by simp) ?_
              refine AllReadyH.cons (o := { dst := none, op := _, type := _, pos := _, after := _, guard := _ }) rfl (fun K hK => ?_) AllReadyH.nil
              go_simp
              have hT8 := (hT7.set 0 (.slice A6 bs2.length c6) (by simp)).set 1 (.slice A7 es2.length c7) (by simp)
              have hO8 := (hO7.other (c := T) (j := 0) (Ne.symm nn1) (.slice A6 bs2.length c6)).other (c := T) (j := 1) (Ne.symm nn1) (.slice A7 es2.length c7)
              have hQ8 := (hQ7.other (c := T) (j := 0) (Ne.symm nn2) (.slice A6 bs2.length c6)).other (c := T) (j := 1) (Ne.symm nn2) (.slice A7 es2.length c7)
              have hrd8 := ((hrd7.stored (r := T) (.inr rfl) 0 (.slice A6 bs2.length c6)).stored (r := T) (.inr rfl) 1 (.slice A7 es2.length c7)).less (Z' := fun k => k = pb ∨ k < w.heap.size + 2) (fun k hk => .inl hk)
              have hB8 := Below.setCell (p := ⟨T, 1, none⟩) (Below.setCell (p := ⟨T, 0, none⟩) hB7 (show w.heap.size ≤ T by omega) (.slice A6 bs2.length c6)) (show w.heap.size ≤ T by omega) (.slice A7 es2.length c7)
              refine hK.out _ _ ⟨hO8.at 0 _ rfl, hO8.at 1 _ rfl, cell_other' (cell_other' r0 nn3 _) nn3 _, cell_other' (cell_other' r1 (c := T) (j := 0) nn3 _) (c := T) (j := 1) nn3 _, cell_other' (cell_other' r2 (c := T) (j := 0) nn3 _) (c := T) (j := 1) nn3 _, cell_other' (cell_other' r3 (c := T) (j := 0) nn3 _) (c := T) (j := 1) nn3 _, cell_other' (cell_other' r4 (c := T) (j := 0) nn3 _) (c := T) (j := 1) nn3 _, cell_other' (cell_other' r5 (c := T) (j := 0) nn3 _) (c := T) (j := 1) nn3 _⟩ (fun hHeld => ?_)
              clear hK K
              refine wpAnyH_take (i := 11) (oi := { dst := some 11, op := _, type := _, pos := _, after := _, guard := _ }) (v := .int .i64 rf) rfl (by kernel_rfl) (by kernel_rfl) (by kernel_rfl) (fun _ _ _ h => h) (Or.inl ⟨by rfl, by (intro w hSw; (try dsimp only at hSw); first | (go_simp; done) | (go_simp; with_reducible rfl) | (go_simp; omega) | (go_simp; simp [*]; done))⟩) (by assumption) ?_; try simp only [Act.put, List.setIfInBounds_toArray, List.set_cons_zero, List.set_cons_succ]
              refine wpAnyH_done (by kernel_rfl) ?_ _
              generalize (W7.setCell ⟨T, 0, none⟩ (.slice A6 bs2.length c6)).setCell ⟨T, 1, none⟩ (.slice A7 es2.length c7) = W8 at *
              clear z0 z1 r0 r1 r2 r3 r4 r5 v0 v1 v2 v3
              by_cases hen : rf = 0
              · have hF2 := Lib.hid (hfs.out hen).symm
                have hrb : (rf != 0) = false := by simp [hen]
                clear hen hfl hfs
                have y0 := hO8.free 0 _ rfl
                have y1 := hO8.free 1 _ rfl
                have y2 := hO8.at 0 _ rfl
                have y3 := hO8.at 1 _ rfl
                have t0 := hT8.at 0 _ rfl
                have t1 := hT8.at 1 _ rfl
                go_wp2_with fail
                go_roundw
                case rel => exact ⟨k + 1, bs2, es2, A6, c6, A7, c7, hlt, by go_num, hF2.out, hinv2, hc6, (hO8.set 0 _ (by simp)).set 1 _ (by simp), (hrd8.stored (.inl rfl) 0 _).stored (.inl rfl) 1 _, (hQ8.other (by omega) _).other (by omega) _, (by repeat (first | exact Below.refl _ _ | apply below_alloc | apply pw_below_drewN | apply below_drew1 | (refine Below.setCell ?_ (by first | (simp; done) | (simp; omega) | omega) _) | exact hB8))⟩
                case measure => simp [intOf]; omega
              · have hF2 := hfl.out hen
                subst hF2
                have hrb : (rf != 0) = true := by simp [hen]
                clear hen hfs hfl
                have q0 := (hQ8).at 0 _ rfl
                have q1 := (hQ8).at 1 _ rfl
                have q2 := (hQ8).free 0 _ rfl
                have q3 := (hQ8).free 1 _ rfl
                go_wp2_with fail
                refine bodyPost_ret (v := .tuple #[.agg #[.slice none 0 0, .slice none 0 0], .int .i64 rf]) (by simp [results, Tryd.results20, go_sem, *]) rfl ?_
                exact ⟨none, 0, none, 0, rfl, Nat.zero_le _, fun _ _ _ => ⟨C_none _ _, C_none _ _⟩, (by repeat (first | exact Below.refl _ _ | apply below_alloc | apply pw_below_drewN | apply below_drew1 | (refine Below.setCell ?_ (by first | (simp; done) | (simp; omega) | omega) _) | exact hB8))⟩
          · have hF2 := hff hxf
            subst hF2
            generalize entryFault x = f at *
            have hfb : (f != 0) = true := by simp [hxf]
            replace HF := Lib.hid HF
            clear hff hfs hxf hfl
            go_wp2_with fail
            refine HF.out.mono ?_
            rintro e w5 ⟨rfl, hb5⟩
            have hQ5 := hQ.below hb5 hqr
            have hB5 := hB.trans (hb5.mono hB.size)
            have q0 := (hQ5).at 0 _ rfl
            have q1 := (hQ5).at 1 _ rfl
            have q2 := (hQ5).free 0 _ rfl
            have q3 := (hQ5).free 1 _ rfl
            go_wp2_with fail
            refine bodyPost_ret (v := .tuple #[.agg #[.slice none 0 0, .slice none 0 0], .int .i64 f]) (by simp [results, Tryd.results20, go_sem, *]) rfl ?_
            exact ⟨none, 0, none, 0, rfl, Nat.zero_le _, fun _ _ _ => ⟨C_none _ _, C_none _ _⟩, (by repeat (first | exact Below.refl _ _ | apply below_alloc | apply pw_below_drewN | apply below_drew1 | (refine Below.setCell ?_ (by first | (simp; done) | (simp; omega) | omega) _) | exact hB5))⟩
        · obtain rfl : k = l.length := by omega
          rw [fold_end] at hF
          subst hF
          have i1 : ¬ (l.length : Int) < (l.length : Int) := by omega
          have k0 := hO.at 0 _ rfl
          have k1 := hO.at 1 _ rfl
          have q0 := hQ.at 0 _ rfl
          have q1 := hQ.at 1 _ rfl
          have q2 := hQ.free 0 _ rfl
          have q3 := hQ.free 1 _ rfl
          go_wp2_with fail
          refine bodyPost_ret (v := .tuple #[.agg #[.slice A' bs'.length c', .slice A3 es'.length c3], .int .i64 0]) (by simp [results, Tryd.results20, go_sem, *]) rfl ?_
          have hfin := fun u1 u2 => ((hrd.stored (r := w.heap.size + 1) (.inr (by omega)) 0 u1).stored (r := w.heap.size + 1) (.inr (by omega)) 1 u2).less (Z' := fun k => k < w.heap.size) (fun k hk => .inr (by omega))
          exact ⟨A', c', A3, c3, rfl, hc', hfin _ _, (by repeat (first | exact Below.refl _ _ | apply below_alloc | apply pw_below_drewN | apply below_drew1 | (refine Below.setCell ?_ (by first | (simp; done) | (simp; omega) | omega) _) | exact hB))⟩
  · rw [show allV bs es l = (stFault bs es, [], []) by rw [allV, if_pos hf]]
    generalize stFault bs es = f at *
    have hfb : (f != 0) = true := by simp [hf]
    have hfb2 : (f == 0) = false := by simp [hf]
    replace HC := Lib.hid HC
    clear hf
    go_enter Tryd.func20, Tryd.ntmps20
    go_wp2_with fail
    rw [← hW2.out]
    refine HC.out.mono ?_
    rintro e w1 ⟨rfl, hb1⟩
    have hz1 := hb1.size
    have hQ1 := hQ0.below hb1 (by omega)
    have hB1 := hB0.trans (hb1.mono (by omega))
    have q0 := (hQ1).at 0 _ rfl
    have q1 := (hQ1).at 1 _ rfl
    have q2 := (hQ1).free 0 _ rfl
    have q3 := (hQ1).free 1 _ rfl
    go_wp2_with fail
    refine bodyPost_ret (v := .tuple #[.agg #[.slice none 0 0, .slice none 0 0], .int .i64 f]) (by simp [results, Tryd.results20, go_sem, *]) rfl ?_
    exact ⟨none, 0, none, 0, rfl, Nat.zero_le _, fun _ _ _ => ⟨C_none _ _, C_none _ _⟩, (by repeat (first | exact Below.refl _ _ | apply below_alloc | apply pw_below_drewN | apply below_drew1 | (refine Below.setCell ?_ (by first | (simp; done) | (simp; omega) | omega) _) | exact hB1))⟩
end Go.Proofs.YtijdghplfhfpaaaDoor.H

/- Batches: book.Fold. -/
namespace Go.Proofs.YtijdghplfhfpaaaDoor.H
open Go.RowKit Go.Proofs.YtijdghplfhfpaaaDoorW.PrintWords Go.Proofs.YtijdghplfhfpaaaDoorW.PrintLast Go.Proofs.YtijdghplfhfpaaaDoor.U
set_option linter.unusedVariables false
set_option linter.unusedSimpArgs false
set_option maxHeartbeats 2000000 in
set_option maxRecDepth 100000 in
theorem fold_calls (A : Option Addr) (c : Nat) (l : List ABatch) (u : Int) (m : Int) (w : World) (hr : kBt.C w A l.length l) (hsl : ∀ b ∈ l, ∀ x ∈ b.2, okE x)
    (hm : w.cell? ⟨6, 0, none⟩ = some (.int .i64 m)) (hg : 6 < w.heap.size) :
    Calls Tryd.prog 25 #[.slice A l.length c, .int .i64 u] w (PostRead w (foldV l u)) := by
  have h63 := hr.2.1
  obtain ⟨W1, hW1⟩ : ∃ W1 : World, W1 = w.alloc (.cells #[.slice none 0 0, .slice none 0 0] 25) := ⟨_, rfl⟩
  have hQ0 : Blk W1 w.heap.size [.slice none 0 0, .slice none 0 0] := by rw [hW1]; exact Blk.made w _ _
  have hB0 : Below w.heap.size w W1 := by rw [hW1]; exact (by repeat (first | exact Below.refl _ _ | apply below_alloc | apply pw_below_drewN | apply below_drew1 | (refine Below.setCell ?_ (by first | (simp; done) | (simp; omega) | omega) _) ))
  replace hW1 := Lib.hid hW1
  obtain ⟨F, hF⟩ : ∃ F, F = foldV l u := ⟨_, rfl⟩
  rw [← hF]
  have hFb : firstBad l ≠ 0 → F = (firstBad l, [], []) := fun h => by rw [hF, foldV, if_neg h]
  have hFu : firstBad l = 0 → (u < 0 ∨ 2 < u) → F = (6, [], []) := fun h h2 => by rw [hF, foldV, if_pos h, if_pos h2]
  have hFo : firstBad l = 0 → ¬ (u < 0 ∨ 2 < u) → F = (0, l.foldl (stepB u) st0) := fun h h2 => by rw [hF, foldV, if_pos h, if_neg h2]
  clear hF
  replace hFb := Lib.hid hFb
  replace hFu := Lib.hid hFu
  replace hFo := Lib.hid hFo
  go_enter Tryd.func25, Tryd.ntmps25
  go_wp2_with fail
  rw [← hW1.out]
  go_loopw [17] (fun i wr => ∃ k : Nat, k ≤ l.length ∧ i = .int .i64 k ∧ firstBad (l.drop k) = firstBad l ∧ Blk wr w.heap.size [.slice none 0 0, .slice none 0 0] ∧ Below w.heap.size w wr) (fun i _ => l.length - (intOf i).toNat)
  case atStart => exact ⟨0, Nat.zero_le _, rfl, rfl, hQ0, hB0⟩
  case round =>
    clear hQ0 hB0 hW1
    obtain ⟨k, hk, rfl, hfb, hQ, hB⟩ := hrel
    have hqr := hQ.lt
    by_cases hlt : k < l.length
    · obtain ⟨ad, Ae, ce, e1, x0, x1, hC⟩ := kBt_at (Kd.C_below hr hB) k hlt
      subst e1
      have hbb := fun h => bad_bad hlt h
      have hbg := fun h => bad_good hlt h
      rw [hfb] at hbb hbg
      have hsx := hsl _ (List.getElem_mem hlt)
      obtain ⟨⟨ub, es⟩, hbk⟩ : ∃ z, l[k] = z := ⟨_, rfl⟩
      rw [hbk] at x0 x1 hC hbb hbg hsx
      simp only at x0 x1 hC hbb hbg hsx
      clear hbk
      have i0 : (0 : Int) ≤ (k : Int) := by omega
      have i1 : (k : Int) < (l.length : Int) := by omega
      have hbx : Below wr.heap.size wr (wr.alloc (.cells #[.int .i64 ub, .slice Ae es.length ce] 88)) := (by repeat (first | exact Below.refl _ _ | apply below_alloc | apply pw_below_drewN | apply below_drew1 | (refine Below.setCell ?_ (by first | (simp; done) | (simp; omega) | omega) _) ))
      have hBx := hB.trans (hbx.mono hB.size)
      have HC := bookCheck_calls ub Ae ce es m _ (Kd.C_below hC hbx) hsx (cell_below hBx hm hg) (by have := hBx.size; omega)
      by_cases hf : batchFault ub es = 0
      · rw [hf] at HC
        have hn := Lib.hid (hbg hf).symm
        replace HC := Lib.hid HC
        clear hbb hbg hfb hf
        go_wp2_with fail
        refine HC.out.mono ?_
        rintro e w2 ⟨rfl, hb2⟩
        have hb3 := hbx.trans (hb2.mono hbx.size)
        go_wp2_with fail
        go_roundw
        case rel => exact ⟨k + 1, hlt, by go_num, hn.out, hQ.below hb3 hqr, hB.trans (hb3.mono hB.size)⟩
        case measure => simp [intOf]; omega
      · have hF := hFb.out (by rw [hbb hf]; exact hf)
        rw [hbb hf] at hF
        subst hF
        generalize batchFault ub es = f at *
        have hfx : (f != 0) = true := by simp [hf]
        replace HC := Lib.hid HC
        clear hbb hbg hfb hf
        go_wp2_with fail
        refine HC.out.mono ?_
        rintro e w2 ⟨rfl, hb2⟩
        have hb3 := hbx.trans (hb2.mono hbx.size)
        have hQ3 := hQ.below hb3 hqr
        have hB3 := hB.trans (hb3.mono hB.size)
        have q0 := (hQ3).at 0 _ rfl
        have q1 := (hQ3).at 1 _ rfl
        have q2 := (hQ3).free 0 _ rfl
        have q3 := (hQ3).free 1 _ rfl
        go_wp2_with fail
        refine bodyPost_ret (v := .tuple #[.agg #[.slice none 0 0, .slice none 0 0], .int .i64 f]) (by simp [results, Tryd.results25, go_sem, *]) rfl ?_
        exact ⟨none, 0, none, 0, rfl, Nat.zero_le _, fun _ _ _ => ⟨C_none _ _, C_none _ _⟩, (by repeat (first | exact Below.refl _ _ | apply below_alloc | apply pw_below_drewN | apply below_drew1 | (refine Below.setCell ?_ (by first | (simp; done) | (simp; omega) | omega) _) | exact hB3))⟩
    · obtain rfl : k = l.length := by omega
      rw [bad_end] at hfb
      have i1 : ¬ (l.length : Int) < (l.length : Int) := by omega
      by_cases hu : u < 0 ∨ 2 < u
      · have hF := hFu.out hfb.symm hu
        subst hF
        clear hfb
        rcases hu with hu | hu
        · have q0 := (hQ).at 0 _ rfl
          have q1 := (hQ).at 1 _ rfl
          have q2 := (hQ).free 0 _ rfl
          have q3 := (hQ).free 1 _ rfl
          go_wp2_with fail
          refine bodyPost_ret (v := .tuple #[.agg #[.slice none 0 0, .slice none 0 0], .int .i64 6]) (by simp [results, Tryd.results25, go_sem, *]) rfl ?_
          exact ⟨none, 0, none, 0, rfl, Nat.zero_le _, fun _ _ _ => ⟨C_none _ _, C_none _ _⟩, (by repeat (first | exact Below.refl _ _ | apply below_alloc | apply pw_below_drewN | apply below_drew1 | (refine Below.setCell ?_ (by first | (simp; done) | (simp; omega) | omega) _) | exact hB))⟩
        · have hu1 : ¬ u < 0 := by omega
          have hu2 : 3 ≤ u := by omega
          have q0 := (hQ).at 0 _ rfl
          have q1 := (hQ).at 1 _ rfl
          have q2 := (hQ).free 0 _ rfl
          have q3 := (hQ).free 1 _ rfl
          go_wp2_with fail
          refine bodyPost_ret (v := .tuple #[.agg #[.slice none 0 0, .slice none 0 0], .int .i64 6]) (by simp [results, Tryd.results25, go_sem, *]) rfl ?_
          exact ⟨none, 0, none, 0, rfl, Nat.zero_le _, fun _ _ _ => ⟨C_none _ _, C_none _ _⟩, (by repeat (first | exact Below.refl _ _ | apply below_alloc | apply pw_below_drewN | apply below_drew1 | (refine Below.setCell ?_ (by first | (simp; done) | (simp; omega) | omega) _) | exact hB))⟩
      · have hF := hFo.out hfb.symm hu
        subst hF
        have hu1 : ¬ u < 0 := by omega
        have hu2 : ¬ 3 ≤ u := by omega
        clear hu hfb
        have HA := applyTop_calls none 0 [] none 0 [] ⟨1, inbox, 0, 0, ⟨#[]⟩, ⟨#[]⟩⟩ m wr (C_none _ _) (Nat.zero_le _) (C_none _ _) okSt_nil ⟨by show inbox.size ≤ 1048576; decide, by decide, by decide⟩ (cell_below hB hm hg) (by have := hB.size; omega)
        rw [all_inbox] at HA
        replace HA := Lib.hid HA
        go_wp2_with fail
        refine HA.out.mono ?_
        intro e w3 hw3
        obtain ⟨vB, vS, rfl, hS3, hE3, hb3⟩ := hw3
        simp only at hS3 hE3 ⊢
        obtain ⟨Ab, cb, rfl, hcb, _⟩ := Kd.S_reads hS3
        obtain ⟨As, cs, rfl⟩ := Kd.R_slice hE3
        have hz3 := hb3.size
        obtain ⟨pb, hpbe⟩ : ∃ pb, pb = w3.heap.size := ⟨_, rfl⟩
        obtain ⟨W4, hW4⟩ : ∃ W4 : World, W4 = w3.alloc (.cells #[.slice Ab st0.1.length cb, .slice As st0.2.length cs] 25) := ⟨_, rfl⟩
        have hQ4 : Blk W4 w.heap.size [.slice none 0 0, .slice none 0 0] := by rw [hW4]; exact (hQ.below hb3 (by omega)).alloc _
        have hO4 : Blk W4 pb [.slice Ab st0.1.length cb, .slice As st0.2.length cs] := by rw [hW4, hpbe]; exact Blk.made _ _ _
        have hB4 : Below w.heap.size w W4 := by rw [hW4]; exact below_alloc' (hB.trans (hb3.mono hB.size)) (by omega) _
        have hrd4 : Rd (fun k => k = pb ∨ k < w.heap.size + 1) W4 Ab st0.1 As st0.2 := by
          rw [hW4, hpbe]
          exact Rd.own (Kd.S_below (Kd.S_bound hS3) (by repeat (first | exact Below.refl _ _ | apply below_alloc | apply pw_below_drewN | apply below_drew1 | (refine Below.setCell ?_ (by first | (simp; done) | (simp; omega) | omega) _) ))) (Kd.R_below (Kd.R_bound hE3) (by repeat (first | exact Below.refl _ _ | apply below_alloc | apply pw_below_drewN | apply below_drew1 | (refine Below.setCell ?_ (by first | (simp; done) | (simp; omega) | omega) _) ))) (fun k hk hb hz => by have := hk.2.2.1; rcases hz with h | h <;> omega) (fun k hk hb hz => by have := hk.2.2.1; rcases hz with h | h <;> omega)
        have hpw : w.heap.size < pb := by omega
        have hok0 := okSt_0
        have hT : l.foldl (stepB u) st0 = (l.drop 0).foldl (stepB u) st0 := rfl
        generalize hfv : l.foldl (stepB u) st0 = T at *
        replace hW4 := Lib.hid hW4
        replace hpbe := Lib.hid hpbe
        clear hb3 hS3 hE3 hz3 hQ hB HA hFb hFu hFo hfv
        generalize st0 = s0 at *
        go_wp2_with fail
        rw [← hW4.out, ← hpbe.out]
        go_loopw [43] (fun i wr => ∃ (k : Nat) (s : List ABox × List AEntry) (A' : Option Addr) (c' : Nat) (A3 : Option Addr) (c3 : Nat), k ≤ l.length ∧ i = .int .i64 k ∧ (l.drop k).foldl (stepB u) s = T ∧ okSt s.1 s.2 ∧ s.1.length ≤ c' ∧ Blk wr pb [.slice A' s.1.length c', .slice A3 s.2.length c3] ∧ Rd (fun k => k = pb ∨ k < w.heap.size + 1) wr A' s.1 A3 s.2 ∧ Blk wr w.heap.size [.slice none 0 0, .slice none 0 0] ∧ Below w.heap.size w wr) (fun i _ => l.length - (intOf i).toNat)
        case atStart => exact ⟨0, s0, Ab, cb, As, cs, Nat.zero_le _, rfl, hT.symm, hok0, hcb, hO4, hrd4, hQ4, hB4⟩
        case round =>
          clear hT hok0 hcb hO4 hrd4 hQ4 hB4
          obtain ⟨k, s, A', c', A3, c3, hk, rfl, hT, hok, hc', hO, hrd, hQ, hB⟩ := hrel
          have hzr := hO.lt
          have hqr := hQ.lt
          by_cases hlt : k < l.length
          · obtain ⟨ad, Ae, ce, e1, x0, x1, hC⟩ := kBt_at (Kd.C_below hr hB) k hlt
            subst e1
            have hsx := hsl _ (List.getElem_mem hlt)
            have hft := foldl_at (u := u) hlt s
            rw [hT] at hft
            clear hT
            have hoks := okSt_step (u := u) (b := l[k]) hok hsx
            obtain ⟨⟨ub, es⟩, hbk⟩ : ∃ z, l[k] = z := ⟨_, rfl⟩
            rw [hbk] at x0 x1 hC hsx hft hoks
            simp only at x0 x1 hC hsx
            clear hbk
            have i0 : (0 : Int) ≤ (k : Int) := by omega
            have i1 : (k : Int) < (l.length : Int) := by omega
            obtain ⟨Wx, hWx⟩ : ∃ Wx : World, Wx = wr.alloc (.cells #[.int .i64 ub, .slice Ae es.length ce] 88) := ⟨_, rfl⟩
            have hbx : Below wr.heap.size wr Wx := by rw [hWx]; exact (by repeat (first | exact Below.refl _ _ | apply below_alloc | apply pw_below_drewN | apply below_drew1 | (refine Below.setCell ?_ (by first | (simp; done) | (simp; omega) | omega) _) ))
            have hBx := hB.trans (hbx.mono hB.size)
            have hQx := hQ.below hbx hqr
            have hOx := hO.below hbx hzr
            have hrdx := hrd.below hbx
            have k0 := hO.at 0 _ rfl
            have k1 := hO.at 1 _ rfl
            by_cases hub : ub = u
            · have hubb : (ub != u) = false := by simp [hub]
              have HA := all_calls A' c' s.1 A3 c3 s.2 Ae ce es m Wx hrdx.now.1 hc' hrdx.now.2 hok (Kd.C_below hC hbx) hsx (cell_below hBx hm hg) (by have := hBx.size; omega)
              have hst : stepB u s (ub, es) = if (allV s.1 s.2 es).1 = 0 then (allV s.1 s.2 es).2 else s := if_pos hub
              rw [hst] at hft hoks
              clear hst hub
              generalize allV s.1 s.2 es = R at *
              obtain ⟨rf, s2⟩ := R
              simp only at hft hoks
              replace HA := Lib.hid HA
              replace hWx := Lib.hid hWx
              by_cases hrf : rf = 0
              · rw [if_pos hrf] at hft hoks
                have hrb : (rf == 0) = true := by simp [hrf]
                replace hft := Lib.hid hft
                clear hrf
                go_wp2_with fail
                rw [← hWx.out]
                refine HA.out.mono ?_
                intro e w5 hw5
                obtain ⟨vB5, vS5, rfl, hS5, hE5, hb5⟩ := hw5
                simp only at hS5 hE5 ⊢
                obtain ⟨A5, c5, rfl, hc5, _⟩ := Kd.S_reads hS5
                obtain ⟨A6, c6, rfl⟩ := Kd.R_slice hE5
                have hz5 := hb5.size
                have hzx := hbx.size
                have hO6 := hOx.below hb5 hOx.lt
                have hQ6 := hQx.below hb5 hQx.lt
                have hB6 := hBx.trans (hb5.mono hBx.size)
                clear k0 k1
                have y0 := hO6.free 0 _ rfl
                have y1 := hO6.free 1 _ rfl
                have y2 := hO6.at 0 _ rfl
                have y3 := hO6.at 1 _ rfl
                have hlo := hO6.lt
                have hlq := hQ6.lt
                have hrd6 : Rd (fun k => k = pb ∨ k < w.heap.size + 1) w5 A5 s2.1 A6 s2.2 := Rd.own (Kd.S_bound hS5) (Kd.R_bound hE5) (fun k hk hb hz => by have := hk.2.1; rcases hz with h | h <;> omega) (fun k hk hb hz => by have := hk.2.1; rcases hz with h | h <;> omega)
                go_wp2_with fail
                go_roundw
                case rel => exact ⟨k + 1, s2, A5, c5, A6, c6, hlt, by go_num, hft.out.symm, hoks, hc5, ((hO6.set 0 _ (by simp)).set 1 _ (by simp)).alloc _, ((hrd6.stored (.inl rfl) 0 _).stored (.inl rfl) 1 _).below (by repeat (first | exact Below.refl _ _ | apply below_alloc | apply pw_below_drewN | apply below_drew1 | (refine Below.setCell ?_ (by first | (simp; done) | (simp; omega) | omega) _) )), ((hQ6.other (by omega) _).other (by omega) _).alloc _, (by repeat (first | exact Below.refl _ _ | apply below_alloc | apply pw_below_drewN | apply below_drew1 | (refine Below.setCell ?_ (by first | (simp; done) | (simp; omega) | omega) _) | exact hB6))⟩
                case measure => simp [intOf]; omega
              · rw [if_neg hrf] at hft hoks
                have hrb : (rf == 0) = false := by simp [hrf]
                replace hft := Lib.hid hft
                clear hrf
                go_wp2_with fail
                rw [← hWx.out]
                refine HA.out.mono ?_
                intro e w5 hw5
                obtain ⟨vB5, vS5, rfl, hS5, hE5, hb5⟩ := hw5
                simp only at hS5 hE5 ⊢
                obtain ⟨A5, c5, rfl, hc5, _⟩ := Kd.S_reads hS5
                obtain ⟨A6, c6, rfl⟩ := Kd.R_slice hE5
                have hz5 := hb5.size
                have hzx := hbx.size
                have hO6 := hOx.below hb5 hOx.lt
                have hQ6 := hQx.below hb5 hQx.lt
                have hB6 := hBx.trans (hb5.mono hBx.size)
                clear k0 k1
                have hrd6 := hrdx.below hb5
                go_wp2_with fail
                go_roundw
                case rel => exact ⟨k + 1, s, A', c', A3, c3, hlt, by go_num, hft.out.symm, hok, hc', hO6.alloc _, hrd6.below (by repeat (first | exact Below.refl _ _ | apply below_alloc | apply pw_below_drewN | apply below_drew1 | (refine Below.setCell ?_ (by first | (simp; done) | (simp; omega) | omega) _) )), hQ6.alloc _, (by repeat (first | exact Below.refl _ _ | apply below_alloc | apply pw_below_drewN | apply below_drew1 | (refine Below.setCell ?_ (by first | (simp; done) | (simp; omega) | omega) _) | exact hB6))⟩
                case measure => simp [intOf]; omega
            · have hubb : (ub != u) = true := by simp [hub]
              have hst : stepB u s (ub, es) = s := if_neg hub
              rw [hst] at hft
              replace hft := Lib.hid hft
              clear hst hub hoks
              subst hWx
              go_wp2_with fail
              go_roundw
              case rel => exact ⟨k + 1, s, A', c', A3, c3, hlt, by go_num, hft.out.symm, hok, hc', hOx, hrdx, hQx, hBx⟩
              case measure => simp [intOf]; omega
          · obtain rfl : k = l.length := by omega
            rw [foldl_end] at hT
            subst hT
            have i1 : ¬ (l.length : Int) < (l.length : Int) := by omega
            have k0 := hO.at 0 _ rfl
            have k1 := hO.at 1 _ rfl
            have q0 := hQ.at 0 _ rfl
            have q1 := hQ.at 1 _ rfl
            have q2 := hQ.free 0 _ rfl
            have q3 := hQ.free 1 _ rfl
            have hfin := fun u1 u2 => ((hrd.stored (r := w.heap.size) (.inr (by omega)) 0 u1).stored (r := w.heap.size) (.inr (by omega)) 1 u2).less (Z' := fun k => k < w.heap.size) (fun k hk => .inr (by omega))
            go_wp2_with fail
            refine bodyPost_ret (v := .tuple #[.agg #[.slice A' s.1.length c', .slice A3 s.2.length c3], .int .i64 0]) (by simp [results, Tryd.results25, go_sem, *]) rfl ?_
            exact ⟨A', c', A3, c3, rfl, hc', hfin _ _, (by repeat (first | exact Below.refl _ _ | apply below_alloc | apply pw_below_drewN | apply below_drew1 | (refine Below.setCell ?_ (by first | (simp; done) | (simp; omega) | omega) _) | exact hB))⟩
end Go.Proofs.YtijdghplfhfpaaaDoor.H

/- Batches: the reference's folded and BatchesFolded. -/
namespace Go.Proofs.YtijdghplfhfpaaaDoor.H
open Go.RowKit Go.Proofs.YtijdghplfhfpaaaDoorW.PrintWords Go.Proofs.YtijdghplfhfpaaaDoorW.PrintLast Go.Proofs.YtijdghplfhfpaaaDoor.U
set_option linter.unusedVariables false
set_option linter.unusedSimpArgs false
def PostFd (w : World) (T : List ABox × List AEntry) (e : Ending) (w' : World) : Prop :=
  ∃ A c A2 c2, e = .returned (.agg #[.slice A T.1.length c, .slice A2 T.2.length c2]) ∧ Rd (fun k => k < w.heap.size) w' A T.1 A2 T.2 ∧ Below w.heap.size w w'
set_option maxHeartbeats 2000000 in
set_option maxRecDepth 100000 in
theorem folded_calls (A : Option Addr) (c : Nat) (l : List ABatch) (u : Int) (w : World) (hr : kBt.C w A l.length l) (hsl : ∀ b ∈ l, ∀ x ∈ b.2, okE x) :
    Calls Tryd.prog 61 #[.slice A l.length c, .int .i64 u] w (PostFd w (l.foldl (stepB u) st0)) := by
  have h63 := hr.2.1
  obtain ⟨W1, hW1⟩ : ∃ W1 : World, W1 = w.alloc (.cells #[.slice none 0 0, .slice none 0 0] 25) := ⟨_, rfl⟩
  have hz1 : W1.heap.size = w.heap.size + 1 := by rw [hW1]; simp
  obtain ⟨W2, hW2⟩ : ∃ W2 : World, W2 = W1.alloc (.cells #[.string inbox, .int .i64 1, .slice none 0 0] 77) := ⟨_, rfl⟩
  have hz2 : W2.heap.size = w.heap.size + 1 + 1 := by rw [hW2]; simp [hz1]
  obtain ⟨pb, hpb⟩ : ∃ pb, pb = w.heap.size + 1 + 1 := ⟨_, rfl⟩
  obtain ⟨W3, hW3⟩ : ∃ W3 : World, W3 = W2.alloc (.cells #[.slice (some ⟨w.heap.size + 1, 0, none⟩) 1 1, .slice none 0 0] 25) := ⟨_, rfl⟩
  have hQ0 : Blk W3 w.heap.size [.slice none 0 0, .slice none 0 0] := by rw [hW3, hW2, hW1]; exact ((Blk.made w _ _).alloc _).alloc _
  have hO0 : Blk W3 pb [.slice (some ⟨w.heap.size + 1, 0, none⟩) st0.1.length 1, .slice none st0.2.length 0] := by rw [hW3, hpb, ← hz2]; exact Blk.made W2 _ _
  have hrow : Kd.R kBox 77 W2 (w.heap.size + 1) (fun _ => True) (.slice (some ⟨w.heap.size + 1, 0, none⟩) 1 1) st0.1 := by
    have hl := World.ownsRow_lit (base := W1.heap.size) (e := 77) (size := kBox.sz) W1 #[.string inbox, .int .i64 1, .slice none 0 0] 1 (Nat.le_refl _) (by simp [maxLen]) (by simp; rfl)
    rw [hz1] at hl
    rw [hW2]
    refine ⟨fun _ _ => trivial, [.string inbox, .int .i64 1, .slice none 0 0], hl, rfl, fun j p h => ?_⟩
    match j, h with
    | 0, h =>
      obtain rfl : ((inbox, 1, []) : ABox) = p := by simpa [st0] using h
      exact ⟨[.string inbox], [.int .i64 1, .slice none 0 0], rfl, rfl, ⟨[.int .i64 1], [.slice none 0 0], rfl, rfl, ⟨_, rfl, Kd.R_nil _ _ _ _ _⟩⟩⟩
    | j + 1, h => simp [st0] at h
  have hrd0 : Rd (fun k => k = pb ∨ k < w.heap.size + 1) W3 (some ⟨w.heap.size + 1, 0, none⟩) st0.1 none st0.2 := by
    intro W' hs hk
    refine ⟨?_, C_none _ _⟩
    have hR3 : Kd.R kBox 77 W3 (w.heap.size + 1) (fun k => k < pb) (.slice (some ⟨w.heap.size + 1, 0, none⟩) 1 1) st0.1 := by
      rw [hW3]; exact Kd.R_mono (Kd.R_below (Kd.R_bound hrow) (by repeat (first | exact Below.refl _ _ | apply below_alloc | apply pw_below_drewN | apply below_drew1 | (refine Below.setCell ?_ (by first | (simp; done) | (simp; omega) | omega) _) ))) (fun k hk => by have := hk.2.2.1; omega)
    exact (Kd.R_reads' (Kd.R_move (Kd.R_bound hR3) (fun k hkk => hk k (by intro hz; have h1 := hkk.1; have h2 := hkk.2.1; rcases hz with h | h <;> omega) hkk.2.2.1))).2.2
  have hB0 : Below w.heap.size w W3 := by rw [hW3, hW2, hW1]; exact (by repeat (first | exact Below.refl _ _ | apply below_alloc | apply pw_below_drewN | apply below_drew1 | (refine Below.setCell ?_ (by first | (simp; done) | (simp; omega) | omega) _) ))
  have hok0 := okSt_0
  have hT : l.foldl (stepB u) st0 = (l.drop 0).foldl (stepB u) st0 := rfl
  have hcb : st0.1.length ≤ 1 := Nat.le_refl _
  generalize hfv : l.foldl (stepB u) st0 = T0 at *
  rw [hW2, hW1] at hW3
  unfold inbox at hW3
  replace hW3 := Lib.hid hW3
  replace hpb := Lib.hid hpb
  have hpw : w.heap.size < pb := by have := hpb.out; omega
  clear hrow hW2 hW1 hz1 hz2 hfv
  go_enter Tryd.func61, Tryd.ntmps61
  go_wp2_with fail
  rw [← hW3.out, ← hpb.out]
  go_loopw [6] (fun i wr => ∃ (k : Nat) (s : List ABox × List AEntry) (A' : Option Addr) (c' : Nat) (A3 : Option Addr) (c3 : Nat), k ≤ l.length ∧ i = .int .i64 k ∧ (l.drop k).foldl (stepB u) s = T0 ∧ okSt s.1 s.2 ∧ s.1.length ≤ c' ∧ Blk wr pb [.slice A' s.1.length c', .slice A3 s.2.length c3] ∧ Rd (fun k => k = pb ∨ k < w.heap.size + 1) wr A' s.1 A3 s.2 ∧ Blk wr w.heap.size [.slice none 0 0, .slice none 0 0] ∧ Below w.heap.size w wr) (fun i _ => l.length - (intOf i).toNat)
  case atStart => exact ⟨0, st0, _, 1, none, 0, Nat.zero_le _, rfl, hT.symm, hok0, hcb, hO0, hrd0, hQ0, hB0⟩
  case round =>
    clear hT hok0 hcb hO0 hrd0 hQ0 hB0
    obtain ⟨k, s, A', c', A3, c3, hk, rfl, hT, hok, hc', hO, hrd, hQ, hB⟩ := hrel
    have hzr := hO.lt
    have hqr := hQ.lt
    by_cases hlt : k < l.length
    · obtain ⟨ad, Ae, ce, e1, x0, x1, hC⟩ := kBt_at (Kd.C_below hr hB) k hlt
      subst e1
      have hsx := hsl _ (List.getElem_mem hlt)
      have hft := foldl_at (u := u) hlt s
      rw [hT] at hft
      clear hT
      have hoks := okSt_step (u := u) (b := l[k]) hok hsx
      obtain ⟨⟨ub, es⟩, hbk⟩ : ∃ z, l[k] = z := ⟨_, rfl⟩
      rw [hbk] at x0 x1 hC hsx hft hoks
      simp only at x0 x1 hC hsx
      clear hbk
      have i0 : (0 : Int) ≤ (k : Int) := by omega
      have i1 : (k : Int) < (l.length : Int) := by omega
      by_cases hub : ub = u
      · have hubb : (ub != u) = false := by simp [hub]
        have HA := fun W h1 h2 h3 => enteredTop_calls A' c' s.1 A3 c3 s.2 Ae ce es W h1 hc' h2 hok h3 hsx
        have hst : stepB u s (ub, es) = if (allV s.1 s.2 es).1 = 0 then (allV s.1 s.2 es).2 else s := if_pos hub
        rw [hst] at hft hoks
        clear hst hub
        generalize allV s.1 s.2 es = R at *
        obtain ⟨rf, s2⟩ := R
        simp only at hft hoks
        replace HA := Lib.hid HA
        have hOd := hO.drew
        have hQd := hQ.drew
        have hrdd : Rd (fun k => k = pb ∨ k < w.heap.size + 1) wr.drew A' s.1 A3 s.2 := hrd.below (show Below wr.heap.size wr wr.drew from (by repeat (first | exact Below.refl _ _ | apply below_alloc | apply pw_below_drewN | apply below_drew1 | (refine Below.setCell ?_ (by first | (simp; done) | (simp; omega) | omega) _) )))
        have hBd := below_drew hB
        have k0 := hOd.at 0 _ rfl
        have k1 := hOd.at 1 _ rfl
        have q1d := cell_drew' x1
        have q0d := cell_drew' x0
        have hadr : (ad.add (k * 2)).block < wr.heap.size := lt_of_cell' x0
        go_wp2_with fail
        refine wp_region_held_drew (S := fun w' => w'.cell? ⟨pb, 0, none⟩ = some (.slice A' s.1.length c') ∧ w'.cell? ⟨pb, 1, none⟩ = some (.slice A3 s.2.length c3) ∧ w'.cell? ⟨(ad.add (k * 2)).block, (ad.add (k * 2)).off + 1, none⟩ = some (.slice Ae es.length ce)) (by kernel_rfl) ?_ (fun hHeld => ?_)
        · exact ⟨k0, k1, q1d⟩
        refine wpAnyH_take (i := 0) (oi := { dst := some 26, op := _, type := _, pos := _, after := _, guard := _ }) (v := .agg #[.slice A' s.1.length c', .slice A3 s.2.length c3]) rfl (by kernel_rfl) (by kernel_rfl) (by kernel_rfl) (fun _ _ _ h => h) (Or.inl ⟨by rfl, by (intro w hSw; (try dsimp only at hSw); first | (go_simp; done) | (go_simp; with_reducible rfl) | (go_simp; omega) | (go_simp; simp [*]; done))⟩) (by assumption) ?_; try simp only [Act.put, List.setIfInBounds_toArray, List.set_cons_zero, List.set_cons_succ]
        refine wpAnyH_take (i := 1) (oi := { dst := some 27, op := _, type := _, pos := _, after := _, guard := _ }) (v := .slice (some ad) l.length c) rfl (by kernel_rfl) (by kernel_rfl) (by kernel_rfl) (fun _ _ _ h => h) (Or.inl ⟨by rfl, by (intro w hSw; (try dsimp only at hSw); first | (go_simp; done) | (go_simp; with_reducible rfl) | (go_simp; omega) | (go_simp; simp [*]; done))⟩) (by assumption) ?_; try simp only [Act.put, List.setIfInBounds_toArray, List.set_cons_zero, List.set_cons_succ]
        refine wpAnyH_take (i := 2) (oi := { dst := some 28, op := _, type := _, pos := _, after := _, guard := _ }) (v := .int .i64 k) rfl (by kernel_rfl) (by kernel_rfl) (by kernel_rfl) (fun _ _ _ h => h) (Or.inl ⟨by rfl, by (intro w hSw; (try dsimp only at hSw); first | (go_simp; done) | (go_simp; with_reducible rfl) | (go_simp; omega) | (go_simp; simp [*]; done))⟩) (by assumption) ?_; try simp only [Act.put, List.setIfInBounds_toArray, List.set_cons_zero, List.set_cons_succ]
        refine wpAnyH_take (i := 3) (oi := { dst := some 29, op := _, type := _, pos := _, after := _, guard := _ }) (v := .pointer (some (ad.add (k * 2)))) rfl (by kernel_rfl) (by kernel_rfl) (by kernel_rfl) (fun _ _ _ h => h) (Or.inl ⟨by rfl, by (intro w hSw; (try dsimp only at hSw); first | (go_simp; done) | (go_simp; with_reducible rfl) | (go_simp; omega) | (go_simp; simp [*]; done))⟩) (by assumption) ?_; try simp only [Act.put, List.setIfInBounds_toArray, List.set_cons_zero, List.set_cons_succ]
        refine wpAnyH_take (i := 4) (oi := { dst := some 30, op := _, type := _, pos := _, after := _, guard := _ }) (v := .pointer (some ⟨(ad.add (k * 2)).block, (ad.add (k * 2)).off + 1, none⟩)) rfl (by kernel_rfl) (by kernel_rfl) (by kernel_rfl) (fun _ _ _ h => h) (Or.inl ⟨by rfl, by (intro w hSw; (try dsimp only at hSw); first | (go_simp; done) | (go_simp; with_reducible rfl) | (go_simp; omega) | (go_simp; simp [*]; done))⟩) (by assumption) ?_; try simp only [Act.put, List.setIfInBounds_toArray, List.set_cons_zero, List.set_cons_succ]
        refine wpAnyH_take (i := 5) (oi := { dst := some 31, op := _, type := _, pos := _, after := _, guard := _ }) (v := .slice Ae es.length ce) rfl (by kernel_rfl) (by kernel_rfl) (by kernel_rfl) (fun _ _ _ h => h) (Or.inl ⟨by rfl, by (intro w hSw; (try dsimp only at hSw); first | (go_simp; done) | (go_simp; with_reducible rfl) | (go_simp; omega) | (go_simp; simp [*]; done))⟩) (by assumption) ?_; try simp only [Act.put, List.setIfInBounds_toArray, List.set_cons_zero, List.set_cons_succ]
        refine wpAnyH_ready (rs := [6, 10]) (by kernel_rfl) (by simp) ?_
        refine AllReadyH.cons (o := { dst := some 32, op := _, type := _, pos := _, after := _, guard := _ }) rfl (fun K hK => ?_) (AllReadyH.cons (o := { dst := some 7, op := _, type := _, pos := _, after := _, guard := _ }) rfl (fun K hK => ?_) AllReadyH.nil)
        · go_simp
          go_at_call 20
          refine (HA.out _ hrdd.now.1 hrdd.now.2 (Kd.C_below hC (by repeat (first | exact Below.refl _ _ | apply below_alloc | apply pw_below_drewN | apply below_drew1 | (refine Below.setCell ?_ (by first | (simp; done) | (simp; omega) | omega) _) )))).mono ?_
          rintro e w6 ⟨A6, c6, A7, c7, rfl, hc6, hrd6, hb6⟩
          (try simp only at hc6 hrd6 ⊢)
          have hz6 : wr.heap.size ≤ w6.heap.size := by have := hb6.size; simpa using this
          (try simp only [Result.andThen])
          refine hK.out _ _ ⟨(hb6.cell (lt_of_cell' k0)).trans k0, (hb6.cell (lt_of_cell' k1)).trans k1, (hb6.cell (lt_of_cell' q1d)).trans q1d⟩ (fun hHeld => ?_)
          clear hK K
          skip
          refine wpAnyH_take (i := 7) (oi := { dst := some 25, op := _, type := _, pos := _, after := _, guard := _ }) (v := .tuple #[.agg #[.slice A6 s2.1.length c6, .slice A7 s2.2.length c7], .int .i64 rf]) rfl (by kernel_rfl) (by kernel_rfl) (by kernel_rfl) (fun _ _ _ h => h) (Or.inl ⟨by rfl, by (intro w hSw; (try dsimp only at hSw); first | (go_simp; done) | (go_simp; with_reducible rfl) | (go_simp; omega) | (go_simp; simp [*]; done))⟩) (by assumption) ?_; try simp only [Act.put, List.setIfInBounds_toArray, List.set_cons_zero, List.set_cons_succ]
          refine wpAnyH_take (i := 8) (oi := { dst := some 33, op := _, type := _, pos := _, after := _, guard := _ }) (v := .agg #[.slice A6 s2.1.length c6, .slice A7 s2.2.length c7]) rfl (by kernel_rfl) (by kernel_rfl) (by kernel_rfl) (fun _ _ _ h => h) (Or.inl ⟨by rfl, by (intro w hSw; (try dsimp only at hSw); first | (go_simp; done) | (go_simp; with_reducible rfl) | (go_simp; omega) | (go_simp; simp [*]; done))⟩) (by assumption) ?_; try simp only [Act.put, List.setIfInBounds_toArray, List.set_cons_zero, List.set_cons_succ]
          refine wpAnyH_take (i := 9) (oi := { dst := some 34, op := _, type := _, pos := _, after := _, guard := _ }) (v := .int .i64 rf) rfl (by kernel_rfl) (by kernel_rfl) (by kernel_rfl) (fun _ _ _ h => h) (Or.inl ⟨by rfl, by (intro w hSw; (try dsimp only at hSw); first | (go_simp; done) | (go_simp; with_reducible rfl) | (go_simp; omega) | (go_simp; simp [*]; done))⟩) (by assumption) ?_; try simp only [Act.put, List.setIfInBounds_toArray, List.set_cons_zero, List.set_cons_succ]
          refine wpAnyH_ready (rs := [10]) (by kernel_rfl) (by simp) ?_
          refine AllReadyH.cons (o := { dst := some 7, op := _, type := _, pos := _, after := _, guard := _ }) rfl (fun K hK => ?_) AllReadyH.nil
          go_simp
          refine hK.out _ _ ⟨cell_alloc' ((hb6.cell (lt_of_cell' k0)).trans k0) _, cell_alloc' ((hb6.cell (lt_of_cell' k1)).trans k1) _, cell_alloc' ((hb6.cell (lt_of_cell' q1d)).trans q1d) _⟩ (fun hHeld => ?_)
          clear hK K
          obtain ⟨W7, hW7⟩ : ∃ W7 : World, W7 = w6.alloc (.cells #[.slice none 0 0, .slice none 0 0] 25) := ⟨_, rfl⟩
          have hbW : Below w6.heap.size w6 W7 := by rw [hW7]; exact (by repeat (first | exact Below.refl _ _ | apply below_alloc | apply pw_below_drewN | apply below_drew1 | (refine Below.setCell ?_ (by first | (simp; done) | (simp; omega) | omega) _) ))
          have hT7 : Blk W7 w6.heap.size [.slice none 0 0, .slice none 0 0] := by rw [hW7]; exact Blk.made _ _ _
          have hO7 := (hOd.below hb6 hOd.lt).below hbW (by omega)
          have hQ7 := (hQd.below hb6 hQd.lt).below hbW (by omega)
          have hrd7 := hrd6.step (Z' := fun k => (k = pb ∨ k < w.heap.size + 1) ∨ k = w6.heap.size) hbW.size (fun k _ hlt => hbW.block k hlt) (fun k hk hz => by simp; rcases hz with (hz | hz) | hz <;> omega)
          have hrdo := (hrdd.below hb6).step (Z' := fun k => (k = pb ∨ k < w.heap.size + 1) ∨ k = w6.heap.size) hbW.size (fun k _ hlt => hbW.block k hlt) (fun k hk hz => hz.elim id (fun h => by omega))
          have hB7 : Below w.heap.size w W7 := (hBd.trans (hb6.mono hBd.size)).trans (hbW.mono (by omega))
          have hTb : pb < w6.heap.size ∧ w.heap.size < w6.heap.size ∧ (ad.add (k * 2)).block < w6.heap.size := ⟨by omega, by omega, by omega⟩
          have r1 := (hbW.cell (lt_of_cell' ((hb6.cell (lt_of_cell' q1d)).trans q1d))).trans ((hb6.cell (lt_of_cell' q1d)).trans q1d)
          rw [← hW7]
          generalize w6.heap.size = T at *
          replace hW7 := Lib.hid hW7
          obtain ⟨hTb1, hTb2, hTb3⟩ := hTb
          have nn1 : pb ≠ T := by omega
          have nn2 : w.heap.size ≠ T := by omega
          have nn3 : (ad.add (k * 2)).block ≠ T := by omega
          have v0 := hT7.at 0 _ rfl
          have v1 := hT7.at 1 _ rfl
          have v2 := hT7.free 0 _ rfl
          have v3 := hT7.free 1 _ rfl
          refine wpAnyH_ready (rs := [11]) (by kernel_rfl) (by simp) ?_
          refine AllReadyH.cons (o := { dst := none, op := _, type := _, pos := _, after := _, guard := _ }) rfl (fun K hK => ?_) AllReadyH.nil
          go_simp
          have hT8 := (hT7.set 0 (.slice A6 s2.1.length c6) (by simp)).set 1 (.slice A7 s2.2.length c7) (by simp)
          have hO8 := (hO7.other (c := T) (j := 0) (Ne.symm nn1) (.slice A6 s2.1.length c6)).other (c := T) (j := 1) (Ne.symm nn1) (.slice A7 s2.2.length c7)
          have hQ8 := (hQ7.other (c := T) (j := 0) (Ne.symm nn2) (.slice A6 s2.1.length c6)).other (c := T) (j := 1) (Ne.symm nn2) (.slice A7 s2.2.length c7)
          have hrd8 := ((hrd7.stored (r := T) (.inr rfl) 0 (.slice A6 s2.1.length c6)).stored (r := T) (.inr rfl) 1 (.slice A7 s2.2.length c7)).less (Z' := fun k => k = pb ∨ k < w.heap.size + 1) (fun k hk => .inl hk)
          have hrdo8 := ((hrdo.stored (r := T) (.inr rfl) 0 (.slice A6 s2.1.length c6)).stored (r := T) (.inr rfl) 1 (.slice A7 s2.2.length c7)).less (Z' := fun k => k = pb ∨ k < w.heap.size + 1) (fun k hk => .inl hk)
          have hB8 := Below.setCell (p := ⟨T, 1, none⟩) (Below.setCell (p := ⟨T, 0, none⟩) hB7 (show w.heap.size ≤ T by omega) (.slice A6 s2.1.length c6)) (show w.heap.size ≤ T by omega) (.slice A7 s2.2.length c7)
          refine hK.out _ _ ⟨hO8.at 0 _ rfl, hO8.at 1 _ rfl, cell_other' (cell_other' r1 (c := T) (j := 0) nn3 _) (c := T) (j := 1) nn3 _⟩ (fun hHeld => ?_)
          clear hK K
          refine wpAnyH_take (i := 12) (oi := { dst := some 8, op := _, type := _, pos := _, after := _, guard := _ }) (v := .int .i64 rf) rfl (by kernel_rfl) (by kernel_rfl) (by kernel_rfl) (fun _ _ _ h => h) (Or.inl ⟨by rfl, by (intro w hSw; (try dsimp only at hSw); first | (go_simp; done) | (go_simp; with_reducible rfl) | (go_simp; omega) | (go_simp; simp [*]; done))⟩) (by assumption) ?_; try simp only [Act.put, List.setIfInBounds_toArray, List.set_cons_zero, List.set_cons_succ]
          refine wpAnyH_done (by kernel_rfl) ?_ _
          generalize (W7.setCell ⟨T, 0, none⟩ (.slice A6 s2.1.length c6)).setCell ⟨T, 1, none⟩ (.slice A7 s2.2.length c7) = W8 at *
          clear v0 v1 v2 v3 r1
          have t0 := hT8.at 0 _ rfl
          have t1 := hT8.at 1 _ rfl
          have y0 := hO8.free 0 _ rfl
          have y1 := hO8.free 1 _ rfl
          have y2 := hO8.at 0 _ rfl
          have y3 := hO8.at 1 _ rfl
          by_cases hrf : rf = 0
          · rw [if_pos hrf] at hft hoks
            have hrb : (rf == 0) = true := by simp [hrf]
            replace hft := Lib.hid hft
            clear hrf
            go_wp2_with fail
            go_roundw
            case rel => exact ⟨k + 1, s2, A6, c6, A7, c7, hlt, by go_num, hft.out.symm, hoks, hc6, (hO8.set 0 _ (by simp)).set 1 _ (by simp), (hrd8.stored (.inl rfl) 0 _).stored (.inl rfl) 1 _, (hQ8.other (by omega) _).other (by omega) _, (by repeat (first | exact Below.refl _ _ | apply below_alloc | apply pw_below_drewN | apply below_drew1 | (refine Below.setCell ?_ (by first | (simp; done) | (simp; omega) | omega) _) | exact hB8))⟩
            case measure => simp [intOf]; omega
          · rw [if_neg hrf] at hft hoks
            have hrb : (rf == 0) = false := by simp [hrf]
            replace hft := Lib.hid hft
            clear hrf
            go_wp2_with fail
            go_roundw
            case rel => exact ⟨k + 1, s, A', c', A3, c3, hlt, by go_num, hft.out.symm, hok, hc', hO8, hrdo8, hQ8, hB8⟩
            case measure => simp [intOf]; omega
        · go_simp
          refine hK.out _ _ ⟨cell_alloc' k0 _, cell_alloc' k1 _, cell_alloc' q1d _⟩ (fun hHeld => ?_)
          clear hK K
          obtain ⟨Wa, hWa⟩ : ∃ Wa : World, Wa = wr.drew.alloc (.cells #[.slice none 0 0, .slice none 0 0] 25) := ⟨_, rfl⟩
          have hbW : Below wr.drew.heap.size wr.drew Wa := by rw [hWa]; exact (by repeat (first | exact Below.refl _ _ | apply below_alloc | apply pw_below_drewN | apply below_drew1 | (refine Below.setCell ?_ (by first | (simp; done) | (simp; omega) | omega) _) ))
          have hTa : Blk Wa wr.heap.size [.slice none 0 0, .slice none 0 0] := by rw [hWa]; exact Blk.made_at _ _ _ (by simp)
          have hOa := hOd.below hbW hOd.lt
          have hQa := hQd.below hbW hQd.lt
          have hrda := hrdd.step (Z' := fun k => (k = pb ∨ k < w.heap.size + 1) ∨ k = wr.heap.size) hbW.size (fun k _ hlt => hbW.block k hlt) (fun k hk hz => hz.elim id (fun h => by simp at hk; omega))
          have hBa := hBd.trans (hbW.mono hBd.size)
          have hTb : pb < wr.heap.size ∧ w.heap.size < wr.heap.size ∧ (ad.add (k * 2)).block < wr.heap.size := ⟨by omega, by omega, hadr⟩
          have hCa := Kd.C_below (Kd.C_below hC (show Below wr.heap.size wr wr.drew from (by repeat (first | exact Below.refl _ _ | apply below_alloc | apply pw_below_drewN | apply below_drew1 | (refine Below.setCell ?_ (by first | (simp; done) | (simp; omega) | omega) _) )))) hbW
          replace k0 := (hbW.cell (lt_of_cell' k0)).trans k0
          replace k1 := (hbW.cell (lt_of_cell' k1)).trans k1
          replace q1d := (hbW.cell (lt_of_cell' q1d)).trans q1d
          have hza := hbW.size
          simp at hza
          rw [show (wr.alloc (.cells #[.slice none 0 0, .slice none 0 0] 25)).drew = wr.drew.alloc (.cells #[.slice none 0 0, .slice none 0 0] 25) from rfl, ← hWa]
          generalize wr.heap.size = T at *
          replace hWa := Lib.hid hWa
          refine wpAnyH_ready (rs := [6]) (by kernel_rfl) (by simp) ?_
          refine AllReadyH.cons (o := { dst := some 32, op := _, type := _, pos := _, after := _, guard := _ }) rfl (fun K hK => ?_) AllReadyH.nil
          go_simp
          go_at_call 20
          refine (HA.out _ hrda.now.1 hrda.now.2 hCa).mono ?_
          rintro e W7 ⟨A6, c6, A7, c7, rfl, hc6, hrd6, hb6⟩
          (try simp only at hc6 hrd6 ⊢)
          have hz6 := hb6.size
          have hT7 := hTa.below hb6 hTa.lt
          have hO7 := hOa.below hb6 hOa.lt
          have hQ7 := hQa.below hb6 hQa.lt
          have hB7 := hBa.trans (hb6.mono hBa.size)
          have hTl := hTa.lt
          have hrd7 := hrd6.less (Z' := fun k => (k = pb ∨ k < w.heap.size + 1) ∨ k = T) (fun k hz => by show k < Wa.heap.size; rcases hz with (hz | hz) | hz <;> omega)
          have hrdo := hrda.below hb6
          have r1 := (hb6.cell (lt_of_cell' q1d)).trans q1d
          (try simp only [Result.andThen])
          refine hK.out _ _ ⟨hO7.at 0 _ rfl, hO7.at 1 _ rfl, r1⟩ (fun hHeld => ?_)
          clear hK K
          skip
          refine wpAnyH_take (i := 7) (oi := { dst := some 25, op := _, type := _, pos := _, after := _, guard := _ }) (v := .tuple #[.agg #[.slice A6 s2.1.length c6, .slice A7 s2.2.length c7], .int .i64 rf]) rfl (by kernel_rfl) (by kernel_rfl) (by kernel_rfl) (fun _ _ _ h => h) (Or.inl ⟨by rfl, by (intro w hSw; (try dsimp only at hSw); first | (go_simp; done) | (go_simp; with_reducible rfl) | (go_simp; omega) | (go_simp; simp [*]; done))⟩) (by assumption) ?_; try simp only [Act.put, List.setIfInBounds_toArray, List.set_cons_zero, List.set_cons_succ]
          refine wpAnyH_take (i := 8) (oi := { dst := some 33, op := _, type := _, pos := _, after := _, guard := _ }) (v := .agg #[.slice A6 s2.1.length c6, .slice A7 s2.2.length c7]) rfl (by kernel_rfl) (by kernel_rfl) (by kernel_rfl) (fun _ _ _ h => h) (Or.inl ⟨by rfl, by (intro w hSw; (try dsimp only at hSw); first | (go_simp; done) | (go_simp; with_reducible rfl) | (go_simp; omega) | (go_simp; simp [*]; done))⟩) (by assumption) ?_; try simp only [Act.put, List.setIfInBounds_toArray, List.set_cons_zero, List.set_cons_succ]
          refine wpAnyH_take (i := 9) (oi := { dst := some 34, op := _, type := _, pos := _, after := _, guard := _ }) (v := .int .i64 rf) rfl (by kernel_rfl) (by kernel_rfl) (by kernel_rfl) (fun _ _ _ h => h) (Or.inl ⟨by rfl, by (intro w hSw; (try dsimp only at hSw); first | (go_simp; done) | (go_simp; with_reducible rfl) | (go_simp; omega) | (go_simp; simp [*]; done))⟩) (by assumption) ?_; try simp only [Act.put, List.setIfInBounds_toArray, List.set_cons_zero, List.set_cons_succ]
          obtain ⟨hTb1, hTb2, hTb3⟩ := hTb
          have nn1 : pb ≠ T := by omega
          have nn2 : w.heap.size ≠ T := by omega
          have nn3 : (ad.add (k * 2)).block ≠ T := by omega
          have v0 := hT7.at 0 _ rfl
          have v1 := hT7.at 1 _ rfl
          have v2 := hT7.free 0 _ rfl
          have v3 := hT7.free 1 _ rfl
          refine wpAnyH_ready (rs := [11]) (by kernel_rfl) (by simp) ?_
          refine AllReadyH.cons (o := { dst := none, op := _, type := _, pos := _, after := _, guard := _ }) rfl (fun K hK => ?_) AllReadyH.nil
          go_simp
          have hT8 := (hT7.set 0 (.slice A6 s2.1.length c6) (by simp)).set 1 (.slice A7 s2.2.length c7) (by simp)
          have hO8 := (hO7.other (c := T) (j := 0) (Ne.symm nn1) (.slice A6 s2.1.length c6)).other (c := T) (j := 1) (Ne.symm nn1) (.slice A7 s2.2.length c7)
          have hQ8 := (hQ7.other (c := T) (j := 0) (Ne.symm nn2) (.slice A6 s2.1.length c6)).other (c := T) (j := 1) (Ne.symm nn2) (.slice A7 s2.2.length c7)
          have hrd8 := ((hrd7.stored (r := T) (.inr rfl) 0 (.slice A6 s2.1.length c6)).stored (r := T) (.inr rfl) 1 (.slice A7 s2.2.length c7)).less (Z' := fun k => k = pb ∨ k < w.heap.size + 1) (fun k hk => .inl hk)
          have hrdo8 := ((hrdo.stored (r := T) (.inr rfl) 0 (.slice A6 s2.1.length c6)).stored (r := T) (.inr rfl) 1 (.slice A7 s2.2.length c7)).less (Z' := fun k => k = pb ∨ k < w.heap.size + 1) (fun k hk => .inl hk)
          have hB8 := Below.setCell (p := ⟨T, 1, none⟩) (Below.setCell (p := ⟨T, 0, none⟩) hB7 (show w.heap.size ≤ T by omega) (.slice A6 s2.1.length c6)) (show w.heap.size ≤ T by omega) (.slice A7 s2.2.length c7)
          refine hK.out _ _ ⟨hO8.at 0 _ rfl, hO8.at 1 _ rfl, cell_other' (cell_other' r1 (c := T) (j := 0) nn3 _) (c := T) (j := 1) nn3 _⟩ (fun hHeld => ?_)
          clear hK K
          refine wpAnyH_take (i := 12) (oi := { dst := some 8, op := _, type := _, pos := _, after := _, guard := _ }) (v := .int .i64 rf) rfl (by kernel_rfl) (by kernel_rfl) (by kernel_rfl) (fun _ _ _ h => h) (Or.inl ⟨by rfl, by (intro w hSw; (try dsimp only at hSw); first | (go_simp; done) | (go_simp; with_reducible rfl) | (go_simp; omega) | (go_simp; simp [*]; done))⟩) (by assumption) ?_; try simp only [Act.put, List.setIfInBounds_toArray, List.set_cons_zero, List.set_cons_succ]
          refine wpAnyH_done (by kernel_rfl) ?_ _
          generalize (W7.setCell ⟨T, 0, none⟩ (.slice A6 s2.1.length c6)).setCell ⟨T, 1, none⟩ (.slice A7 s2.2.length c7) = W8 at *
          clear v0 v1 v2 v3 r1
          have t0 := hT8.at 0 _ rfl
          have t1 := hT8.at 1 _ rfl
          have y0 := hO8.free 0 _ rfl
          have y1 := hO8.free 1 _ rfl
          have y2 := hO8.at 0 _ rfl
          have y3 := hO8.at 1 _ rfl
          by_cases hrf : rf = 0
          · rw [if_pos hrf] at hft hoks
            have hrb : (rf == 0) = true := by simp [hrf]
            replace hft := Lib.hid hft
            clear hrf
            go_wp2_with fail
            go_roundw
            case rel => exact ⟨k + 1, s2, A6, c6, A7, c7, hlt, by go_num, hft.out.symm, hoks, hc6, (hO8.set 0 _ (by simp)).set 1 _ (by simp), (hrd8.stored (.inl rfl) 0 _).stored (.inl rfl) 1 _, (hQ8.other (by omega) _).other (by omega) _, (by repeat (first | exact Below.refl _ _ | apply below_alloc | apply pw_below_drewN | apply below_drew1 | (refine Below.setCell ?_ (by first | (simp; done) | (simp; omega) | omega) _) | exact hB8))⟩
            case measure => simp [intOf]; omega
          · rw [if_neg hrf] at hft hoks
            have hrb : (rf == 0) = false := by simp [hrf]
            replace hft := Lib.hid hft
            clear hrf
            go_wp2_with fail
            go_roundw
            case rel => exact ⟨k + 1, s, A', c', A3, c3, hlt, by go_num, hft.out.symm, hok, hc', hO8, hrdo8, hQ8, hB8⟩
            case measure => simp [intOf]; omega
      · have hubb : (ub != u) = true := by simp [hub]
        have hst : stepB u s (ub, es) = s := if_neg hub
        rw [hst] at hft
        replace hft := Lib.hid hft
        clear hst hub hoks
        go_wp2_with fail
        go_roundw
        case rel => exact ⟨k + 1, s, A', c', A3, c3, hlt, by go_num, hft.out.symm, hok, hc', hO, hrd, hQ, hB⟩
        case measure => simp [intOf]; omega
    · obtain rfl : k = l.length := by omega
      rw [foldl_end] at hT
      subst hT
      have i1 : ¬ (l.length : Int) < (l.length : Int) := by omega
      have k0 := hO.at 0 _ rfl
      have k1 := hO.at 1 _ rfl
      have q0 := hQ.at 0 _ rfl
      have q1 := hQ.at 1 _ rfl
      have q2 := hQ.free 0 _ rfl
      have q3 := hQ.free 1 _ rfl
      have hfin := fun u1 u2 => ((hrd.stored (r := w.heap.size) (.inr (by omega)) 0 u1).stored (r := w.heap.size) (.inr (by omega)) 1 u2).less (Z' := fun k => k < w.heap.size) (fun k hk => .inr (by omega))
      go_wp2_with fail
      refine bodyPost_ret (v := .agg #[.slice A' s.1.length c', .slice A3 s.2.length c3]) (by simp [results, Tryd.results61, go_sem, *]) rfl ?_
      exact ⟨A', c', A3, c3, rfl, hfin _ _, (by repeat (first | exact Below.refl _ _ | apply below_alloc | apply pw_below_drewN | apply below_drew1 | (refine Below.setCell ?_ (by first | (simp; done) | (simp; omega) | omega) _) | exact hB))⟩
end Go.Proofs.YtijdghplfhfpaaaDoor.H

/- Batches: the reference's BatchesFolded. -/
namespace Go.Proofs.YtijdghplfhfpaaaDoor.H
open Go.RowKit Go.Proofs.YtijdghplfhfpaaaDoorW.PrintWords Go.Proofs.YtijdghplfhfpaaaDoorW.PrintLast Go.Proofs.YtijdghplfhfpaaaDoor.U
set_option linter.unusedVariables false
set_option linter.unusedSimpArgs false
def PostBf (w : World) (R : Int × List ABox × List AEntry) (e : Ending) (w' : World) : Prop :=
  ∃ A c A2 c2, e = .returned (.tuple #[.agg #[.slice A R.2.1.length c, .slice A2 R.2.2.length c2], .int .i64 R.1]) ∧ Rd (fun k => k < w.heap.size) w' A R.2.1 A2 R.2.2 ∧ Below w.heap.size w w'
set_option maxHeartbeats 2000000 in
set_option maxRecDepth 100000 in
theorem batchesFolded_calls (A : Option Addr) (c : Nat) (l : List ABatch) (u : Int) (w : World) (hr : kBt.C w A l.length l) (hsl : ∀ b ∈ l, ∀ x ∈ b.2, okE x) :
    Calls Tryd.prog 26 #[.slice A l.length c, .int .i64 u] w (PostBf w (foldV l u)) := by
  have h63 := hr.2.1
  obtain ⟨W1, hW1⟩ : ∃ W1 : World, W1 = w.alloc (.cells #[.slice none 0 0, .slice none 0 0] 25) := ⟨_, rfl⟩
  have hQ0 : Blk W1 w.heap.size [.slice none 0 0, .slice none 0 0] := by rw [hW1]; exact Blk.made w _ _
  have hB0 : Below w.heap.size w W1 := by rw [hW1]; exact (by repeat (first | exact Below.refl _ _ | apply below_alloc | apply pw_below_drewN | apply below_drew1 | (refine Below.setCell ?_ (by first | (simp; done) | (simp; omega) | omega) _) ))
  replace hW1 := Lib.hid hW1
  obtain ⟨F, hF⟩ : ∃ F, F = foldV l u := ⟨_, rfl⟩
  rw [← hF]
  have hFb : firstBad l ≠ 0 → F = (firstBad l, [], []) := fun h => by rw [hF, foldV, if_neg h]
  have hFu : firstBad l = 0 → (u < 0 ∨ 2 < u) → F = (6, [], []) := fun h h2 => by rw [hF, foldV, if_pos h, if_pos h2]
  have hFo : firstBad l = 0 → ¬ (u < 0 ∨ 2 < u) → F = (0, l.foldl (stepB u) st0) := fun h h2 => by rw [hF, foldV, if_pos h, if_neg h2]
  clear hF
  replace hFb := Lib.hid hFb
  replace hFu := Lib.hid hFu
  replace hFo := Lib.hid hFo
  go_enter Tryd.func26, Tryd.ntmps26
  go_wp2_with fail
  rw [← hW1.out]
  go_loopw [6] (fun i wr => ∃ k : Nat, k ≤ l.length ∧ i = .int .i64 k ∧ firstBad (l.drop k) = firstBad l ∧ Blk wr w.heap.size [.slice none 0 0, .slice none 0 0] ∧ Below w.heap.size w wr) (fun i _ => l.length - (intOf i).toNat)
  case atStart => exact ⟨0, Nat.zero_le _, rfl, rfl, hQ0, hB0⟩
  case round =>
    clear hQ0 hB0 hW1
    obtain ⟨k, hk, rfl, hfb, hQ, hB⟩ := hrel
    have hqr := hQ.lt
    by_cases hlt : k < l.length
    · obtain ⟨ad, Ae, ce, e1, x0, x1, hC⟩ := kBt_at (Kd.C_below hr hB) k hlt
      subst e1
      have hbb := fun h => bad_bad hlt h
      have hbg := fun h => bad_good hlt h
      rw [hfb] at hbb hbg
      have hsx := hsl _ (List.getElem_mem hlt)
      obtain ⟨⟨ub, es⟩, hbk⟩ : ∃ z, l[k] = z := ⟨_, rfl⟩
      rw [hbk] at x0 x1 hC hbb hbg hsx
      simp only at x0 x1 hC hbb hbg hsx
      clear hbk
      have i0 : (0 : Int) ≤ (k : Int) := by omega
      have i1 : (k : Int) < (l.length : Int) := by omega
      have HC := batchFault_calls ub Ae ce es wr hC hsx
      by_cases hf : batchFault ub es = 0
      · rw [hf] at HC
        have hn := Lib.hid (hbg hf).symm
        replace HC := Lib.hid HC
        clear hbb hbg hfb hf
        go_wp2_with fail
        refine HC.out.mono ?_
        rintro e w2 ⟨rfl, hb2⟩
        go_wp2_with fail
        go_roundw
        case rel => exact ⟨k + 1, hlt, by go_num, hn.out, hQ.below hb2 hqr, hB.trans (hb2.mono hB.size)⟩
        case measure => simp [intOf]; omega
      · have hF := hFb.out (by rw [hbb hf]; exact hf)
        rw [hbb hf] at hF
        subst hF
        generalize batchFault ub es = f at *
        have hfx : (f != 0) = true := by simp [hf]
        replace HC := Lib.hid HC
        clear hbb hbg hfb hf
        go_wp2_with fail
        refine HC.out.mono ?_
        rintro e w2 ⟨rfl, hb2⟩
        have hQ3 := hQ.below hb2 hqr
        have hB3 := hB.trans (hb2.mono hB.size)
        have q0 := (hQ3).at 0 _ rfl
        have q1 := (hQ3).at 1 _ rfl
        have q2 := (hQ3).free 0 _ rfl
        have q3 := (hQ3).free 1 _ rfl
        go_wp2_with ((go_at_call 52; first | (refine (in_yes _ _ _ _ (by omega) (by omega)).mono ?_; rintro e w' ⟨rfl, rfl⟩) | (refine (in_no _ _ _ _ (by omega)).mono ?_; rintro e w' ⟨rfl, rfl⟩)))
        refine bodyPost_ret (v := .tuple #[.agg #[.slice none 0 0, .slice none 0 0], .int .i64 f]) (by simp [results, Tryd.results26, go_sem, *]) rfl ?_
        exact ⟨none, 0, none, 0, rfl, fun _ _ _ => ⟨C_none _ _, C_none _ _⟩, (by repeat (first | exact Below.refl _ _ | apply below_alloc | apply pw_below_drewN | apply below_drew1 | (refine Below.setCell ?_ (by first | (simp; done) | (simp; omega) | omega) _) | exact hB3))⟩
    · obtain rfl : k = l.length := by omega
      rw [bad_end] at hfb
      have i1 : ¬ (l.length : Int) < (l.length : Int) := by omega
      by_cases hu : u < 0 ∨ 2 < u
      · have hF := hFu.out hfb.symm hu
        subst hF
        clear hfb
        have q0 := (hQ).at 0 _ rfl
        have q1 := (hQ).at 1 _ rfl
        have q2 := (hQ).free 0 _ rfl
        have q3 := (hQ).free 1 _ rfl
        go_wp2_with ((go_at_call 52; first | (refine (in_yes _ _ _ _ (by omega) (by omega)).mono ?_; rintro e w' ⟨rfl, rfl⟩) | (refine (in_no _ _ _ _ (by omega)).mono ?_; rintro e w' ⟨rfl, rfl⟩)))
        refine bodyPost_ret (v := .tuple #[.agg #[.slice none 0 0, .slice none 0 0], .int .i64 6]) (by simp [results, Tryd.results26, go_sem, *]) rfl ?_
        exact ⟨none, 0, none, 0, rfl, fun _ _ _ => ⟨C_none _ _, C_none _ _⟩, (by repeat (first | exact Below.refl _ _ | apply below_alloc | apply pw_below_drewN | apply below_drew1 | (refine Below.setCell ?_ (by first | (simp; done) | (simp; omega) | omega) _) | exact hB))⟩
      · have hF := hFo.out hfb.symm hu
        subst hF
        have HF := Lib.hid (folded_calls A c l u wr (Kd.C_below hr hB) hsl)
        clear hfb
        go_wp2_with ((go_at_call 52; first | (refine (in_yes _ _ _ _ (by omega) (by omega)).mono ?_; rintro e w' ⟨rfl, rfl⟩) | (refine (in_no _ _ _ _ (by omega)).mono ?_; rintro e w' ⟨rfl, rfl⟩)))
        refine HF.out.mono ?_
        intro e w3 hw3
        obtain ⟨A3, c3, A4, c4, rfl, hrd3, hb3⟩ := hw3
        have hQ3 := hQ.below hb3 hqr
        have hB3 := hB.trans (hb3.mono hB.size)
        have q0 := hQ3.at 0 _ rfl
        have q1 := hQ3.at 1 _ rfl
        have q2 := hQ3.free 0 _ rfl
        have q3 := hQ3.free 1 _ rfl
        have hfin := fun u1 u2 => ((hrd3.stored (r := w.heap.size) hqr 0 u1).stored (r := w.heap.size) hqr 1 u2).less (Z' := fun k => k < w.heap.size) (fun k hk => Nat.lt_trans hk hqr)
        go_wp2_with fail
        refine bodyPost_ret (v := .tuple #[.agg #[.slice A3 (l.foldl (stepB u) st0).1.length c3, .slice A4 (l.foldl (stepB u) st0).2.length c4], .int .i64 0]) (by simp [results, Tryd.results26, go_sem, *]) rfl ?_
        exact ⟨A3, c3, A4, c4, rfl, hfin _ _, (by repeat (first | exact Below.refl _ _ | apply below_alloc | apply pw_below_drewN | apply below_drew1 | (refine Below.setCell ?_ (by first | (simp; done) | (simp; omega) | omega) _) | exact hB3))⟩
end Go.Proofs.YtijdghplfhfpaaaDoor.H
