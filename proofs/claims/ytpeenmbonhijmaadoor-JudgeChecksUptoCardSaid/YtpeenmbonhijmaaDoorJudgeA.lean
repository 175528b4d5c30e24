/- Letters judged: judge.Check and the reference's LetterOf: the walks. -/
import Derived.Test.YtpeenmbonhijmaaDoorLpM
import Derived.Test.YtpeenmbonhijmaaDoorWhoC
namespace Go.Proofs.YtpeenmbonhijmaaDoor.H
open Go.RowKit Go.Proofs.YtpeenmbonhijmaaDoorW.PrintWords Go.Proofs.YtpeenmbonhijmaaDoorW.PrintLast Go.Proofs.YtpeenmbonhijmaaDoorW.PrintMore Go.Proofs.YtpeenmbonhijmaaDoor.U
set_option linter.unusedVariables false
set_option linter.unusedSimpArgs false
/-- What is wrong with a letter, and the message of its text. -/
def letterV (a b c d t : ByteArray) : Int × List AField × ByteArray :=
  if addrFault a b = 0 then if addrFault c d = 0 then ((parseV t).1, (parseV t).2.2.1, (parseV t).2.2.2) else (addrFault c d, [], ⟨#[]⟩) else (addrFault a b, [], ⟨#[]⟩)
/-- What a letter's check hands back. -/
def PostLetter (w : World) (R : Int × List AField × ByteArray) (e : Ending) (w' : World) : Prop :=
  ∃ v : Value, e = .returned (.tuple #[.agg #[v, .string R.2.2], .int .i64 R.1]) ∧ Kd.R kAField 100 w' w.heap.size (fun _ => True) v R.2.1 ∧ Below w.heap.size w w'
theorem pair_at0 (a b c d : ByteArray) (w : World) : (Instr.index 110 (.agg #[.string a, .string b, .string c, .string d]) (.int .i64 0)).run Tryd.prog w = .ok (.agg #[.string a, .string b]) w := by
  simp [Instr.index, run_underlying Tryd.underlying110, asIntOf, go_sem]
theorem pair_at1 (a b c d : ByteArray) (w : World) : (Instr.index 110 (.agg #[.string a, .string b, .string c, .string d]) (.int .i64 1)).run Tryd.prog w = .ok (.agg #[.string c, .string d]) w := by
  simp [Instr.index, run_underlying Tryd.underlying110, asIntOf, go_sem]
set_option maxHeartbeats 8000000 in
set_option maxRecDepth 100000 in
theorem judgeCheck_calls (a b c d t : ByteArray) (m : Int) (w : World) (ha : a.size ≤ 1048576) (hb : b.size ≤ 1048576) (hc : c.size ≤ 1048576) (hd : d.size ≤ 1048576) (ht : t.size ≤ 1048576)
    (hm : w.cell? ⟨0, 0, none⟩ = some (.int .i64 m)) (hg : 0 < w.heap.size) :
    Calls Tryd.prog 34 #[.agg #[.string a, .string b, .string c, .string d, .string t]] w (PostLetter w (letterV a b c d t)) := by
  have H1 := fun w hm hg => check_calls a b m w ha hb hm hg
  have H2 := fun w hm hg => check_calls c d m w hc hd hm hg
  have HP := fun w hm hg => parse_calls t m w ht hm hg
  have hmax := Lib.hid (fun wr (hB : Below w.heap.size w wr) => cell_below hB hm hg)
  generalize hR : letterV a b c d t = R
  have hR := Lib.hid hR
  have hx0 := pair_at0 a b c d
  have hx1 := pair_at1 a b c d
  go_enter Tryd.func34, Tryd.ntmps34
  go_wp2_with fail
  go_loopw [15] (fun v wr => (v = .int .i64 0 ∨ (v = .int .i64 1 ∧ addrFault a b = 0) ∨ (v = .int .i64 2 ∧ addrFault a b = 0 ∧ addrFault c d = 0)) ∧ Blk wr w.heap.size [.string a, .string b, .string c, .string d, .string t] ∧ Blk wr (w.heap.size + 1) [.slice none 0 0, .string ⟨#[]⟩] ∧ Below w.heap.size w wr) (fun v _ => 2 - (intOf v).toNat)
  case atStart => exact ⟨.inl rfl, (Blk.made w #[.string a, .string b, .string c, .string d, .string t] _).alloc _, Blk.made_at _ _ _ (by simp), (by repeat (first | exact Below.refl _ _ | apply below_alloc | apply pw_below_drewN | apply below_drew1 | (refine Below.setCell ?_ (by first | (simp; done) | (simp; omega) | omega) _) ))⟩
  case round =>
    obtain ⟨hk, hblk, hmb, hB⟩ := hrel
    have hzw := hblk.lt
    have hzm := hmb.lt
    have hmr := hmax.out wr hB
    rcases hk with rfl | ⟨rfl, h1⟩ | ⟨rfl, h1, h2⟩
    · by_cases hf : addrFault a b = 0
      · rw [hf] at H1
        have HA := Lib.hid (fun w hm hg => H1 w hm hg)
        have hf := Lib.hid hf
        go_wp2_with fail
        refine (HA.out _ (cell_below (B := wr.heap.size) (by repeat (first | exact Below.refl _ _ | apply below_alloc | apply pw_below_drewN | apply below_drew1 | (refine Below.setCell ?_ (by first | (simp; done) | (simp; omega) | omega) _) )) hmr (by omega)) (by first | (simp; done) | (simp; omega) | omega)).mono ?_
        rintro e w1 ⟨rfl, hc1⟩
        have hb1 : Below wr.heap.size wr w1 := (by repeat (first | exact Below.refl _ _ | apply below_alloc | apply pw_below_drewN | apply below_drew1 | (refine Below.setCell ?_ (by first | (simp; done) | (simp; omega) | omega) _) | (refine below_then ?_ (by first | (simp; done) | (simp; omega) | omega) hc1)))
        have hblk1 := hblk.below hb1 hzw
        have hmb1 := hmb.below hb1 hzm
        have hB1 := hB.trans (hb1.mono (by omega))
        clear hc1 hblk hmb hB
        go_wp2_with fail
        go_roundw
        case rel => exact ⟨.inr (.inl ⟨rfl, hf.out⟩), hblk1, hmb1, hB1⟩
        case measure => simp [intOf]
      · have hR := hR.out
        rw [letterV, if_neg hf] at hR
        subst hR
        have HA := Lib.hid (fun w hm hg => H1 w hm hg)
        generalize addrFault a b = f at *
        have hfb : (f != 0) = true := by simp [hf]
        clear hf
        go_wp2_with fail
        refine (HA.out _ (cell_below (B := wr.heap.size) (by repeat (first | exact Below.refl _ _ | apply below_alloc | apply pw_below_drewN | apply below_drew1 | (refine Below.setCell ?_ (by first | (simp; done) | (simp; omega) | omega) _) )) hmr (by omega)) (by first | (simp; done) | (simp; omega) | omega)).mono ?_
        rintro e w1 ⟨rfl, hc1⟩
        have hb1 : Below wr.heap.size wr w1 := (by repeat (first | exact Below.refl _ _ | apply below_alloc | apply pw_below_drewN | apply below_drew1 | (refine Below.setCell ?_ (by first | (simp; done) | (simp; omega) | omega) _) | (refine below_then ?_ (by first | (simp; done) | (simp; omega) | omega) hc1)))
        have hmb1 := hmb.below hb1 hzm
        have hB1 := hB.trans (hb1.mono (by omega))
        have q0 := (hmb1).at 0 _ rfl
        have q1 := (hmb1).at 1 _ rfl
        have p0 := (hmb1).free 0 _ rfl
        have p1 := (hmb1).free 1 _ rfl
        clear hc1 hblk hmb hB
        go_wp2_with fail
        refine bodyPost_ret (v := .tuple #[.agg #[.slice none 0 0, .string ⟨#[]⟩], .int .i64 f]) (by simp [results, Tryd.results34, go_sem, *]) rfl ?_
        exact ⟨_, rfl, Kd.R_nil _ _ _ _ _, (by repeat (first | exact Below.refl _ _ | apply below_alloc | apply pw_below_drewN | apply below_drew1 | (refine Below.setCell ?_ (by first | (simp; done) | (simp; omega) | omega) _) | exact hB1))⟩
    · by_cases hf : addrFault c d = 0
      · rw [hf] at H2
        have HA := Lib.hid (fun w hm hg => H2 w hm hg)
        have hf := Lib.hid hf
        go_wp2_with fail
        refine (HA.out _ (cell_below (B := wr.heap.size) (by repeat (first | exact Below.refl _ _ | apply below_alloc | apply pw_below_drewN | apply below_drew1 | (refine Below.setCell ?_ (by first | (simp; done) | (simp; omega) | omega) _) )) hmr (by omega)) (by first | (simp; done) | (simp; omega) | omega)).mono ?_
        rintro e w1 ⟨rfl, hc1⟩
        have hb1 : Below wr.heap.size wr w1 := (by repeat (first | exact Below.refl _ _ | apply below_alloc | apply pw_below_drewN | apply below_drew1 | (refine Below.setCell ?_ (by first | (simp; done) | (simp; omega) | omega) _) | (refine below_then ?_ (by first | (simp; done) | (simp; omega) | omega) hc1)))
        have hblk1 := hblk.below hb1 hzw
        have hmb1 := hmb.below hb1 hzm
        have hB1 := hB.trans (hb1.mono (by omega))
        clear hc1 hblk hmb hB
        go_wp2_with fail
        go_roundw
        case rel => exact ⟨.inr (.inr ⟨rfl, h1, hf.out⟩), hblk1, hmb1, hB1⟩
        case measure => simp [intOf]
      · have hR := hR.out
        rw [letterV, if_pos h1, if_neg hf] at hR
        subst hR
        clear h1
        have HA := Lib.hid (fun w hm hg => H2 w hm hg)
        generalize addrFault c d = f at *
        have hfb : (f != 0) = true := by simp [hf]
        clear hf
        go_wp2_with fail
        refine (HA.out _ (cell_below (B := wr.heap.size) (by repeat (first | exact Below.refl _ _ | apply below_alloc | apply pw_below_drewN | apply below_drew1 | (refine Below.setCell ?_ (by first | (simp; done) | (simp; omega) | omega) _) )) hmr (by omega)) (by first | (simp; done) | (simp; omega) | omega)).mono ?_
        rintro e w1 ⟨rfl, hc1⟩
        have hb1 : Below wr.heap.size wr w1 := (by repeat (first | exact Below.refl _ _ | apply below_alloc | apply pw_below_drewN | apply below_drew1 | (refine Below.setCell ?_ (by first | (simp; done) | (simp; omega) | omega) _) | (refine below_then ?_ (by first | (simp; done) | (simp; omega) | omega) hc1)))
        have hmb1 := hmb.below hb1 hzm
        have hB1 := hB.trans (hb1.mono (by omega))
        have q0 := (hmb1).at 0 _ rfl
        have q1 := (hmb1).at 1 _ rfl
        have p0 := (hmb1).free 0 _ rfl
        have p1 := (hmb1).free 1 _ rfl
        clear hc1 hblk hmb hB
        go_wp2_with fail
        refine bodyPost_ret (v := .tuple #[.agg #[.slice none 0 0, .string ⟨#[]⟩], .int .i64 f]) (by simp [results, Tryd.results34, go_sem, *]) rfl ?_
        exact ⟨_, rfl, Kd.R_nil _ _ _ _ _, (by repeat (first | exact Below.refl _ _ | apply below_alloc | apply pw_below_drewN | apply below_drew1 | (refine Below.setCell ?_ (by first | (simp; done) | (simp; omega) | omega) _) | exact hB1))⟩
    · have hR := hR.out
      rw [letterV, if_pos h1, if_pos h2] at hR
      clear h1 h2
      generalize parseV t = r at *
      obtain ⟨n, p, l, bd⟩ := r
      simp only at hR
      subst hR
      have HP := Lib.hid HP
      have h4 := hblk.at 4 _ rfl
      go_wp2_with fail
      refine (HP.out _ hmr (by omega)).mono ?_
      intro e w1 hw1
      obtain ⟨v, rfl, hR1, hb1⟩ := hw1
      simp only at hR1 ⊢
      obtain ⟨A1, c1, rfl⟩ := Kd.R_slice hR1
      have hmb1 := hmb.below hb1 hzm
      have hB1 := hB.trans (hb1.mono (by omega))
      have hz1 := hb1.size
      have hzm1 := hmb1.lt
      have hz0 : w.heap.size < w1.heap.size := by omega
      have q0 := (hmb1).at 0 _ rfl
      have q1 := (hmb1).at 1 _ rfl
      have p0 := (hmb1).free 0 _ rfl
      have p1 := (hmb1).free 1 _ rfl
      have hzw6 := hB.size
      have hma := hmb1.alloc (.cells #[.slice A1 l.length c1, .string bd] 41)
      have q2 := hma.at 0 _ rfl
      have q3 := hma.at 1 _ rfl
      have p2 := hma.free 0 _ rfl
      have p3 := hma.free 1 _ rfl
      clear hblk hmb hB
      go_wp2_with fail
      refine bodyPost_ret (v := .tuple #[.agg #[.slice A1 l.length c1, .string bd], .int .i64 n]) (by simp [results, Tryd.results34, go_sem, *]) rfl ?_
      exact ⟨_, rfl, Kd.R_lower (Kd.R_below (R_elder (p := ⟨w.heap.size + 1, 1, none⟩) (R_elder (p := ⟨w.heap.size + 1, 0, none⟩) hR1 hzm _) hzm _) (by repeat (first | exact Below.refl _ _ | apply below_alloc | apply pw_below_drewN | apply below_drew1 | (refine Below.setCell ?_ (by first | (simp; done) | (simp; omega) | omega) _) ))) hzw6, (by repeat (first | exact Below.refl _ _ | apply below_alloc | apply pw_below_drewN | apply below_drew1 | (refine Below.setCell ?_ (by first | (simp; done) | (simp; omega) | omega) _) | exact hB1))⟩
set_option maxHeartbeats 8000000 in
set_option maxRecDepth 100000 in
theorem letterOf_calls (a b c d t : ByteArray) (w : World) (ha : a.size ≤ 1048576) (hb : b.size ≤ 1048576) (hc : c.size ≤ 1048576) (hd : d.size ≤ 1048576) (ht : t.size ≤ 1048576) :
    Calls Tryd.prog 35 #[.agg #[.string a, .string b, .string c, .string d, .string t]] w (PostLetter w (letterV a b c d t)) := by
  have H1 := fun w => addressFault_calls a b w ha hb
  have H2 := fun w => addressFault_calls c d w hc hd
  have HP := fun w => message_calls t w ht
  have hblk0 := (Blk.made w #[.string a, .string b, .string c, .string d, .string t] 56).alloc (.cells #[.slice none 0 0, .string ⟨#[]⟩] 41)
  have hmb0 : Blk ((w.alloc (.cells #[.string a, .string b, .string c, .string d, .string t] 56)).alloc (.cells #[.slice none 0 0, .string ⟨#[]⟩] 41)) (w.heap.size + 1) [.slice none 0 0, .string ⟨#[]⟩] := Blk.made_at _ _ _ (by simp)
  have hB0 : Below w.heap.size w ((w.alloc (.cells #[.string a, .string b, .string c, .string d, .string t] 56)).alloc (.cells #[.slice none 0 0, .string ⟨#[]⟩] 41)) := (by repeat (first | exact Below.refl _ _ | apply below_alloc | apply pw_below_drewN | apply below_drew1 | (refine Below.setCell ?_ (by first | (simp; done) | (simp; omega) | omega) _) ))
  have hz0 : ((w.alloc (.cells #[.string a, .string b, .string c, .string d, .string t] 56)).alloc (.cells #[.slice none 0 0, .string ⟨#[]⟩] 41)).heap.size = w.heap.size + 2 := by simp
  by_cases hf : addrFault a b = 0
  · by_cases hg : addrFault c d = 0
    · rw [letterV, if_pos hf, if_pos hg]
      rw [hf] at H1
      rw [hg] at H2
      clear hf hg
      generalize parseV t = r at *
      obtain ⟨n, p, l, bd⟩ := r
      have H1 := Lib.hid H1
      have H2 := Lib.hid H2
      have HP := Lib.hid HP
      go_enter Tryd.func35, Tryd.ntmps35
      go_wp2_with fail
      refine (H1.out _).mono ?_
      rintro e w1 ⟨rfl, hb1⟩
      have hblk1 := hblk0.below hb1 (by omega)
      have hmb1 := hmb0.below hb1 (by omega)
      have hB1 := hB0.trans (hb1.mono (by omega))
      have hz1 := hb1.size
      have h2 := hblk1.at 2 _ rfl
      have h3 := hblk1.at 3 _ rfl
      clear hblk0 hmb0 hB0
      go_wp2_with fail
      refine (H2.out _).mono ?_
      rintro e w2 ⟨rfl, hb2⟩
      have hblk2 := hblk1.below hb2 (by omega)
      have hmb2 := hmb1.below hb2 (by omega)
      have hB2 := hB1.trans (hb2.mono (by omega))
      have hz2 := hb2.size
      have h4 := hblk2.at 4 _ rfl
      clear hblk1 hmb1 hB1 h2 h3
      go_wp2_with fail
      refine (HP.out _).mono ?_
      intro e w3 hw1
      obtain ⟨v, rfl, hR1, hb3⟩ := hw1
      simp only at hR1 ⊢
      obtain ⟨A1, c1, rfl⟩ := Kd.R_slice hR1
      have hmb3 := hmb2.below hb3 (by omega)
      have hB3 := hB2.trans (hb3.mono (by omega))
      have hz3 := hb3.size
      have hzm3 := hmb3.lt
      have hz4 : w.heap.size < w3.heap.size := by omega
      have hz5 : w.heap.size + 1 < w2.heap.size := by omega
      have hz6 : w.heap.size ≤ w2.heap.size := by omega
      have q0 := (hmb3).at 0 _ rfl
      have q1 := (hmb3).at 1 _ rfl
      have p0 := (hmb3).free 0 _ rfl
      have p1 := (hmb3).free 1 _ rfl
      have hma := hmb3.alloc (.cells #[.slice A1 l.length c1, .string bd] 41)
      have q2 := hma.at 0 _ rfl
      have q3 := hma.at 1 _ rfl
      have p2 := hma.free 0 _ rfl
      have p3 := hma.free 1 _ rfl
      clear hblk2 hmb2 hB2
      go_wp2_with fail
      refine bodyPost_ret (v := .tuple #[.agg #[.slice A1 l.length c1, .string bd], .int .i64 n]) (by simp [results, Tryd.results35, go_sem, *]) rfl ?_
      exact ⟨_, rfl, Kd.R_lower (Kd.R_below (R_elder (p := ⟨w.heap.size + 1, 1, none⟩) (R_elder (p := ⟨w.heap.size + 1, 0, none⟩) hR1 hz5 _) hz5 _) (by repeat (first | exact Below.refl _ _ | apply below_alloc | apply pw_below_drewN | apply below_drew1 | (refine Below.setCell ?_ (by first | (simp; done) | (simp; omega) | omega) _) ))) hz6, (by repeat (first | exact Below.refl _ _ | apply below_alloc | apply pw_below_drewN | apply below_drew1 | (refine Below.setCell ?_ (by first | (simp; done) | (simp; omega) | omega) _) | exact hB3))⟩
    · rw [letterV, if_pos hf, if_neg hg]
      rw [hf] at H1
      clear HP hf
      generalize addrFault c d = f at *
      have hfb : (f != 0) = true := by simp [hg]
      clear hg
      have H1 := Lib.hid H1
      have H2 := Lib.hid H2
      go_enter Tryd.func35, Tryd.ntmps35
      go_wp2_with fail
      refine (H1.out _).mono ?_
      rintro e w1 ⟨rfl, hb1⟩
      have hblk1 := hblk0.below hb1 (by omega)
      have hmb1 := hmb0.below hb1 (by omega)
      have hB1 := hB0.trans (hb1.mono (by omega))
      have hz1 := hb1.size
      have h2 := hblk1.at 2 _ rfl
      have h3 := hblk1.at 3 _ rfl
      clear hblk0 hmb0 hB0
      go_wp2_with fail
      refine (H2.out _).mono ?_
      rintro e w2 ⟨rfl, hb2⟩
      have hmb2 := hmb1.below hb2 (by omega)
      have hB2 := hB1.trans (hb2.mono (by omega))
      have q0 := (hmb2).at 0 _ rfl
      have q1 := (hmb2).at 1 _ rfl
      have p0 := (hmb2).free 0 _ rfl
      have p1 := (hmb2).free 1 _ rfl
      clear hblk1 hmb1 hB1 h2 h3
      go_wp2_with fail
      refine bodyPost_ret (v := .tuple #[.agg #[.slice none 0 0, .string ⟨#[]⟩], .int .i64 f]) (by simp [results, Tryd.results35, go_sem, *]) rfl ?_
      exact ⟨_, rfl, Kd.R_nil _ _ _ _ _, (by repeat (first | exact Below.refl _ _ | apply below_alloc | apply pw_below_drewN | apply below_drew1 | (refine Below.setCell ?_ (by first | (simp; done) | (simp; omega) | omega) _) | exact hB2))⟩
  · rw [letterV, if_neg hf]
    clear HP H2
    generalize addrFault a b = f at *
    have hfb : (f != 0) = true := by simp [hf]
    have hfe : (f == 0) = false := by simp [hf]
    clear hf
    have H1 := Lib.hid H1
    go_enter Tryd.func35, Tryd.ntmps35
    go_wp2_with fail
    refine (H1.out _).mono ?_
    rintro e w1 ⟨rfl, hb1⟩
    have hmb1 := hmb0.below hb1 (by omega)
    have hB1 := hB0.trans (hb1.mono (by omega))
    have q0 := (hmb1).at 0 _ rfl
    have q1 := (hmb1).at 1 _ rfl
    have p0 := (hmb1).free 0 _ rfl
    have p1 := (hmb1).free 1 _ rfl
    clear hblk0 hmb0 hB0
    go_wp2_with fail
    refine bodyPost_ret (v := .tuple #[.agg #[.slice none 0 0, .string ⟨#[]⟩], .int .i64 f]) (by simp [results, Tryd.results35, go_sem, *]) rfl ?_
    exact ⟨_, rfl, Kd.R_nil _ _ _ _ _, (by repeat (first | exact Below.refl _ _ | apply below_alloc | apply pw_below_drewN | apply below_drew1 | (refine Below.setCell ?_ (by first | (simp; done) | (simp; omega) | omega) _) | exact hB1))⟩
end Go.Proofs.YtpeenmbonhijmaaDoor.H
