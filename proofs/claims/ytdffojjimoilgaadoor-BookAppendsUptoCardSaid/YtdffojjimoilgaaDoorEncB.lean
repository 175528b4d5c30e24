/- Batches as bytes: book.Encode. -/
import Derived.Test.YtdffojjimoilgaaDoorEncA
namespace Go.Proofs.YtdffojjimoilgaaDoor.H
open Go.RowKit Go.Proofs.YtdffojjimoilgaaDoorW.PrintWords Go.Proofs.YtdffojjimoilgaaDoorW.PrintLast Go.Proofs.YtdffojjimoilgaaDoorW.PrintMore Go.Proofs.YtdffojjimoilgaaDoor.U
set_option linter.unusedVariables false
set_option linter.unusedSimpArgs false
def encV (u : Int) (l : List AEntry) : Int × List Int := if batchFault u l = 0 then (0, encB u l) else (batchFault u l, [])
def PostEnc (w : World) (R : Int × List Int) (e : Ending) (w' : World) : Prop :=
  ∃ v : Value, e = .returned (.tuple #[v, .int .i64 R.1]) ∧ (Kd.int .u8).R 5 w' w.heap.size (fun _ => True) v R.2 ∧ Below w.heap.size w w'
theorem three_at0 (a b c : ByteArray) (w : World) : (Instr.index 70 (.agg #[.string a, .string b, .string c]) (.int .i64 0)).run Tryd.prog w = .ok (.string a) w := by
  simp [Instr.index, run_underlying Tryd.underlying70, asIntOf, go_sem]
theorem three_at1 (a b c : ByteArray) (w : World) : (Instr.index 70 (.agg #[.string a, .string b, .string c]) (.int .i64 1)).run Tryd.prog w = .ok (.string b) w := by
  simp [Instr.index, run_underlying Tryd.underlying70, asIntOf, go_sem]
theorem three_at2 (a b c : ByteArray) (w : World) : (Instr.index 70 (.agg #[.string a, .string b, .string c]) (.int .i64 2)).run Tryd.prog w = .ok (.string c) w := by
  simp [Instr.index, run_underlying Tryd.underlying70, asIntOf, go_sem]
set_option maxHeartbeats 8000000 in
set_option maxRecDepth 100000 in
theorem encode_calls (u : Int) (A : Option Addr) (c : Nat) (l : List AEntry) (m : Int) (w : World) (hr : Kd.C kAEntry w A l.length l) (hs : ∀ x ∈ l, okE x) (hm : w.cell? ⟨0, 0, none⟩ = some (.int .i64 m)) (hg : 0 < w.heap.size) :
    Calls Tryd.prog 15 #[.agg #[.int .i64 u, .slice A l.length c]] w (PostEnc w (encV u l)) := by
  have HC := fun w hr hm hg => bookCheck_calls u A c l m w hr hs hm hg
  have hblk0 := Blk.made w #[.int .i64 u, .slice A l.length c] 24
  have hB0 : Below w.heap.size w (w.alloc (.cells #[.int .i64 u, .slice A l.length c] 24)) := (by repeat (first | exact Below.refl _ _ | apply below_alloc | apply pw_below_drewN | apply below_drew1 | (refine Below.setCell ?_ (by first | (simp; done) | (simp; omega) | omega) _) ))
  have hz0 : (w.alloc (.cells #[.int .i64 u, .slice A l.length c] 24)).heap.size = w.heap.size + 1 := by simp
  by_cases hf : batchFault u l = 0
  · rw [encV, if_pos hf]
    obtain ⟨u0, u1, u2, hgood⟩ := batch_good hf
    have hgood := Lib.hid hgood
    rw [hf] at HC
    clear hf
    have HC := Lib.hid HC
    have hx0 := three_at0
    have hx1 := three_at1
    have hx2 := three_at2
    go_enter Tryd.func15, Tryd.ntmps15
    go_wp2_with fail
    refine (HC.out _ (Kd.C_below hr hB0) (cell_below hB0 hm hg) (by omega)).mono ?_
    rintro e w1 ⟨rfl, hb1⟩
    have hblk1 := hblk0.below hb1 (by omega)
    have hB1 := hB0.trans (hb1.mono (by omega))
    have hz1 := hblk1.lt
    have m0 := hblk1.at 0 _ rfl
    have m1 := hblk1.at 1 _ rfl
    clear hblk0 hB0 hb1
    have l1 : (l.length : Int) ≤ 10 := by omega
    go_wp2_with fail
    have hlit := R_lit [u, (l.length : Int)] w1 (w.heap.size + 1) 5 (by omega) (by simp)
    have hEnd : encB u l = [u, (l.length : Int)] ++ (l.take l.length).flatMap encE := by rw [List.take_length]; rfl
    have hEnd := Lib.hid hEnd
    have hlen := encB_len hs
    go_loopw [5, 26] (fun v i wr => ∃ k : Nat, k ≤ l.length ∧ i = .int .i64 k ∧ (Kd.int .u8).R 5 wr (w.heap.size + 1) (fun _ => True) v ([u, (l.length : Int)] ++ (l.take k).flatMap encE) ∧ w.heap.size < wr.heap.size ∧ Below w.heap.size w wr) (fun _ i _ => l.length - (intOf i).toNat)
    case atStart => exact ⟨0, Nat.zero_le _, rfl, by simpa using hlit, by simp; omega, (by repeat (first | exact Below.refl _ _ | apply below_alloc | apply pw_below_drewN | apply below_drew1 | (refine Below.setCell ?_ (by first | (simp; done) | (simp; omega) | omega) _) | exact hB1))⟩
    case round =>
      clear hlit hblk1 hB1 hz1 m0 m1 HC
      obtain ⟨k, hk, rfl, hR, hz, hB⟩ := hrel
      have hal : ([u, (l.length : Int)] ++ (l.take k).flatMap encE).length ≤ 40000000 := by
        have h1 := encB_len (l := l.take k) (fun x hx => hs x (List.mem_of_mem_take hx))
        have h2 : (l.take k).length ≤ 10 := by rw [List.length_take]; omega
        rw [List.length_append]; simp only [List.length_cons, List.length_nil]
        have h3 : (l.take k).length * 3145800 ≤ 10 * 3145800 := Nat.mul_le_mul_right _ h2
        omega
      by_cases hlt : k < l.length
      · obtain ⟨ad, e1, hx0, hxj⟩ := flat_at (Kd.C_below hr hB) k hlt
        subst e1
        have q0 := hx0 _ rfl; have q1 := hxj 1 _ (by decide) rfl; have q2 := hxj 2 _ (by decide) rfl; have q3 := hxj 3 _ (by decide) rfl; have q4 := hxj 4 _ (by decide) rfl; have q5 := hxj 5 _ (by decide) rfl
        clear hx0 hxj
        have hnext := Lib.hid (encB_next l k hlt)
        obtain ⟨s1, s2, s3⟩ := hs _ (List.getElem_mem hlt)
        obtain ⟨k1, k2, k3, k4, k5, k6⟩ := entry_good (hgood.out _ (List.getElem_mem hlt))
        have i0 : (0 : Int) ≤ (k : Int) := by omega
        have i1 : (k : Int) < (l.length : Int) := by omega
        generalize hacc : ([u, (l.length : Int)] ++ (l.take k).flatMap encE) = acc at *
        have hacc := Lib.hid hacc
        generalize l[k] = x at *
        have hE := BlkT.made wr #[.int .i64 x.kind, .string x.box, .int .i64 x.uid, .int .i64 x.flags, .string x.to_, .string x.text] 60
        have hRW : (Kd.int .u8).R 5 ((wr.alloc (.cells #[.int .i64 x.kind, .string x.box, .int .i64 x.uid, .int .i64 x.flags, .string x.to_, .string x.text] 60)).alloc (.cells #[.int .u8 x.kind, .int .u8 x.flags] 5)) (w.heap.size + 1) (fun _ => True) _ acc := Kd.R_below hR (by repeat (first | exact Below.refl _ _ | apply below_alloc | apply pw_below_drewN | apply below_drew1 | (refine Below.setCell ?_ (by first | (simp; done) | (simp; omega) | omega) _) ))
        have hLC := C_ofR (R_lit [x.kind, x.flags] (wr.alloc (.cells #[.int .i64 x.kind, .string x.box, .int .i64 x.uid, .int .i64 x.flags, .string x.to_, .string x.text] 60)) 0 5 (Nat.zero_le _) (by simp))
        rw [show (wr.alloc (.cells #[.int .i64 x.kind, .string x.box, .int .i64 x.uid, .int .i64 x.flags, .string x.to_, .string x.text] 60)).heap.size = wr.heap.size + 1 by simp] at hLC
        have hEW := hE.alloc (.cells #[.int .u8 x.kind, .int .u8 x.flags] 5)
        have hzW : ((wr.alloc (.cells #[.int .i64 x.kind, .string x.box, .int .i64 x.uid, .int .i64 x.flags, .string x.to_, .string x.text] 60)).alloc (.cells #[.int .u8 x.kind, .int .u8 x.flags] 5)).heap.size = wr.heap.size + 2 := by simp
        have hBW : Below w.heap.size w ((wr.alloc (.cells #[.int .i64 x.kind, .string x.box, .int .i64 x.uid, .int .i64 x.flags, .string x.to_, .string x.text] 60)).alloc (.cells #[.int .u8 x.kind, .int .u8 x.flags] 5)) := (by repeat (first | exact Below.refl _ _ | apply below_alloc | apply pw_below_drewN | apply below_drew1 | (refine Below.setCell ?_ (by first | (simp; done) | (simp; omega) | omega) _) | exact hB))
        go_wp2_with (at_builtin; refine rows_list rowU8 (w.heap.size + 1) rfl _ _ rfl _ acc [x.kind, x.flags] (some ⟨wr.heap.size + 1, 0, none⟩) 2 (by first | rfl | (simp [Act.eval]; done)) (by first | rfl | (simp [Act.eval]; done)) hRW hLC (by omega) (by simp; omega) ?_; intro v1 w2 hR1 hb1 hg1; have hE2 := hEW.row hRW hg1 (by decide); have p2 := hE2.1.at 2 _ rfl; have hz2 := hb1.size; have hB2 := hBW.trans (hb1.mono (by omega)))
        clear hRW hLC hEW hE hBW hR hB
        refine (wide3_calls x.uid k5 k6 (w.heap.size + 1) v1 _ w2 hR1 (by omega) (by simp; omega)).mono ?_
        rintro e w3 ⟨v3, rfl, hR3, hb3, hK3, hO3⟩
        have hE3 := hE2.row hR1 hK3 (by decide)
        have hz3 := hb3.size
        have hB3 := hB2.trans (hb3.mono (by omega))
        have p1 := hE3.1.at 1 _ rfl
        have p4 := hE3.1.at 4 _ rfl
        have p5 := hE3.1.at 5 _ rfl
        clear hR1 hE2 hK3 hO3 hB2 hb1 hb3 hg1
        generalize hpre : acc ++ [x.kind, x.flags] ++ [x.uid / 65536, x.uid / 256 % 256, x.uid % 256] = pre at *
        have hpl : pre.length ≤ 40000010 := by rw [← hpre]; simp; omega
        have hpre := Lib.hid hpre
        go_wp2_with fail
        go_loopw [5, 50] (fun v i wq => ((i = .int .i64 0 ∧ (Kd.int .u8).R 5 wq (w.heap.size + 1) (fun _ => True) v pre) ∨ (i = .int .i64 1 ∧ (Kd.int .u8).R 5 wq (w.heap.size + 1) (fun _ => True) v (pre ++ lenAnd x.box)) ∨ (i = .int .i64 2 ∧ (Kd.int .u8).R 5 wq (w.heap.size + 1) (fun _ => True) v (pre ++ lenAnd x.box ++ lenAnd x.to_)) ∨ (i = .int .i64 3 ∧ (Kd.int .u8).R 5 wq (w.heap.size + 1) (fun _ => True) v (pre ++ lenAnd x.box ++ lenAnd x.to_ ++ lenAnd x.text))) ∧ w.heap.size < wq.heap.size ∧ Below w.heap.size w wq) (fun _ i _ => (3 - intOf i).toNat)
        case atStart => exact ⟨.inl ⟨rfl, hR3⟩, by omega, hB3⟩
        case round =>
          obtain ⟨w3', rfl⟩ : ∃ z : World, z = w3 := ⟨_, rfl⟩
          clear hR3 hB3 hE3
          obtain ⟨hk, hzq, hB⟩ := hrel
          rcases hk with ⟨rfl, hR⟩ | ⟨rfl, hR⟩ | ⟨rfl, hR⟩ | ⟨rfl, hR⟩
          · have hHW := Lib.hid (wide2_calls (x.box.size : Int) (by omega) (w.heap.size + 1) _ (pre) wr hR (by omega) (by first | omega | (simp [lenAnd_len]; omega)))
            go_wp2_with fail
            refine hHW.out.mono ?_
            rintro e w5 ⟨v5, rfl, hR5, hb5, hK5, hO5⟩
            have hz5 := hb5.size
            go_wp2_with (at_builtin; refine str_list rowU8 Tryd.underlying9 (w.heap.size + 1) rfl _ _ rfl _ _ x.box (by first | rfl | (simp [Act.eval]; done)) (by first | rfl | (simp [Act.eval]; done)) hR5 (by omega) (by first | omega | (simp [lenAnd_len]; omega)) ?_; intro v6 w6 hR6 hb6 hg6)
            go_roundw
            case rel => exact ⟨.inr (.inl ⟨rfl, by rw [List.append_assoc] at hR6; exact hR6⟩), (by have := hb6.size; omega), (hB.trans (hb5.mono (by omega))).trans (hb6.mono (by omega))⟩
            case measure => simp [intOf]
          · have hHW := Lib.hid (wide2_calls (x.to_.size : Int) (by omega) (w.heap.size + 1) _ (pre ++ lenAnd x.box) wr hR (by omega) (by first | omega | (simp [lenAnd_len]; omega)))
            go_wp2_with fail
            refine hHW.out.mono ?_
            rintro e w5 ⟨v5, rfl, hR5, hb5, hK5, hO5⟩
            have hz5 := hb5.size
            go_wp2_with (at_builtin; refine str_list rowU8 Tryd.underlying9 (w.heap.size + 1) rfl _ _ rfl _ _ x.to_ (by first | rfl | (simp [Act.eval]; done)) (by first | rfl | (simp [Act.eval]; done)) hR5 (by omega) (by first | omega | (simp [lenAnd_len]; omega)) ?_; intro v6 w6 hR6 hb6 hg6)
            go_roundw
            case rel => exact ⟨.inr (.inr (.inl ⟨rfl, by rw [List.append_assoc] at hR6; exact hR6⟩)), (by have := hb6.size; omega), (hB.trans (hb5.mono (by omega))).trans (hb6.mono (by omega))⟩
            case measure => simp [intOf]
          · have hHW := Lib.hid (wide2_calls (x.text.size : Int) (by omega) (w.heap.size + 1) _ (pre ++ lenAnd x.box ++ lenAnd x.to_) wr hR (by omega) (by first | omega | (simp [lenAnd_len]; omega)))
            go_wp2_with fail
            refine hHW.out.mono ?_
            rintro e w5 ⟨v5, rfl, hR5, hb5, hK5, hO5⟩
            have hz5 := hb5.size
            go_wp2_with (at_builtin; refine str_list rowU8 Tryd.underlying9 (w.heap.size + 1) rfl _ _ rfl _ _ x.text (by first | rfl | (simp [Act.eval]; done)) (by first | rfl | (simp [Act.eval]; done)) hR5 (by omega) (by first | omega | (simp [lenAnd_len]; omega)) ?_; intro v6 w6 hR6 hb6 hg6)
            go_roundw
            case rel => exact ⟨.inr (.inr (.inr ⟨rfl, by rw [List.append_assoc] at hR6; exact hR6⟩)), (by have := hb6.size; omega), (hB.trans (hb5.mono (by omega))).trans (hb6.mono (by omega))⟩
            case measure => simp [intOf]
          · go_wp2_with fail
            go_roundw
            case rel => exact ⟨k + 1, hlt, by go_num, (by
              have he : [u, (l.length : Int)] ++ (l.take (k + 1)).flatMap encE = pre ++ lenAnd x.box ++ lenAnd x.to_ ++ lenAnd x.text := by
                rw [hnext.out, ← List.append_assoc, hacc.out, ← hpre.out]; simp only [encE, List.append_assoc]
              rw [he]; exact hR), hzq, hB⟩
            case measure => simp [intOf]; omega
      · obtain rfl : k = l.length := by omega
        have i1 : ¬ (l.length : Int) < (l.length : Int) := by omega
        clear hal
        go_wp2_with fail
        go_ret2
        exact ⟨_, rfl, (by have hR2 := Kd.R_lower (base' := w.heap.size) hR (by omega); rw [← hEnd.out] at hR2; exact hR2), hB⟩
  · rw [encV, if_neg hf]
    generalize batchFault u l = f at *
    have hfb : (f != 0) = true := by simp [hf]
    clear hf
    have HC := Lib.hid HC
    go_enter Tryd.func15, Tryd.ntmps15
    go_wp2_with fail
    refine (HC.out _ (Kd.C_below hr hB0) (cell_below hB0 hm hg) (by omega)).mono ?_
    rintro e w1 ⟨rfl, hb1⟩
    go_wp2_with fail
    go_ret2
    exact ⟨_, rfl, Kd.R_nil _ _ _ _ _, hB0.trans (hb1.mono (by omega))⟩
end Go.Proofs.YtdffojjimoilgaaDoor.H
