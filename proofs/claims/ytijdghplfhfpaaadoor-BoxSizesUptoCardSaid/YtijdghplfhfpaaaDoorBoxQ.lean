/- Boxes: rows of boxes that a call owns; copies of states. -/
import Derived.Test.YtijdghplfhfpaaaDoorBoxG
import Derived.Test.YtijdghplfhfpaaaDoorByteRow
import Derived.Test.YtijdghplfhfpaaaDoorBookA
import Derived.Test.YtijdghplfhfpaaaDoorWApart
namespace Go.Proofs.YtijdghplfhfpaaaDoor.H
open Go.RowKit Go.Proofs.YtijdghplfhfpaaaDoorW.PrintWords Go.Proofs.YtijdghplfhfpaaaDoorW.PrintLast Go.Proofs.YtijdghplfhfpaaaDoorW.PrintMore Go.Proofs.YtijdghplfhfpaaaDoor.U
set_option linter.unusedVariables false
set_option linter.unusedSimpArgs false
theorem rowAMail : RowT Tryd.prog kAMail 75 84 32 (.agg #[.int .i64 0, .int .i64 0, .string ⟨#[]⟩]) :=
  ⟨Tryd.underlying75, by kernel_rfl, rfl, by decide, by decide, flat_kd⟩
theorem S_elder {α : Type} {d : Kd α} {e base : Nat} {w : World} {v : Value} {xs : List α} (h : Kd.S d e w base (fun _ => True) v xs) {p : Addr} (hp : p.block < base) (u : Value) : Kd.S d e (w.setCell p u) base (fun _ => True) v xs :=
  Kd.S_mono (Kd.S_far (Kd.S_bound h) (fun k hk he => by have := hk.2.1; omega) u) (fun _ _ => trivial)
theorem S_younger {α : Type} {d : Kd α} {e base : Nat} {w : World} {v : Value} {xs : List α} (h : Kd.S d e w base (fun _ => True) v xs) {p : Addr} (hp : w.heap.size ≤ p.block) (u : Value) : Kd.S d e (w.setCell p u) base (fun _ => True) v xs :=
  Kd.S_mono (Kd.S_far (Kd.S_bound h) (fun k hk he => by have := hk.2.2.1; omega) u) (fun _ _ => trivial)
section
variable {ops : Array Oper} {rest : List Oper} {o : Oper} {a : Act} {Q : Exit → Act → World → Prop}
/-- append(v, box), the box's mails in a row that was made later. -/
theorem snocS_list (base base2 : Nat) {W : World} (hgd : o.guard = none) (s x : Operand)
    (ho : o.op = .call { callee := .builtin .append, args := #[s, x], argTypes := #[22, 22] })
    (v : Value) (xs : List ABox) (nm : ByteArray) (nx : Int) (l : List AMail) (vb : Value) (hs : a.eval s = v) (hx : a.eval x = .slice (some ⟨W.heap.size, 0, none⟩) 1 1)
    (hM : Kd.R kAMail 84 W base2 (fun _ => True) vb l) (hb2 : base ≤ base2)
    (HO : Kd.S kBox 77 W base (fun k => k < base2) v xs) (hbase : base ≤ W.heap.size) (hl : (xs.length + 1) * 48 ≤ 140737488355328)
    (h : ∀ v1 w1, Kd.S kBox 77 w1 base (fun _ => True) v1 (xs ++ [(nm, nx, l)]) → Below base W w1 → wpList Tryd.prog ops Q rest (a.put o.dst v1) w1) :
    wpList Tryd.prog ops Q (o :: rest) a (W.alloc (.cells #[.string nm, .int .i64 nx, vb] 77)) :=
  Kd.S_append kBox (w0 := W) base hgd s x 22 77 (.agg #[.string ⟨#[]⟩, .int .i64 0, .slice none 0 0]) 48 ho Tryd.underlying22 (by kernel_rfl) rfl (by decide) (by decide) v xs (nm, nx, l) [.string nm, .int .i64 nx, vb] (fun _ => True) (fun k => base2 ≤ k) hs hx
    ⟨[.string nm], [.int .i64 nx, vb], rfl, rfl, ⟨[.int .i64 nx], [vb], rfl, rfl, ⟨vb, rfl, Kd.R_mono (Kd.R_lower (Kd.R_bound hM) hb2) (fun k hk => hk.2.1)⟩⟩⟩
    (fun k hk => ⟨trivial, fun he => by
      obtain ⟨f, hR⟩ := HO
      have := hR.1 k he.symm
      omega⟩) (fun _ _ => trivial) (Kd.S_mono HO (fun k hk => ⟨trivial, by show ¬ base2 ≤ k; omega⟩)) (Below.refl _ _) hbase hl (fun v1 w1 hR hb _ _ => h v1 w1 hR hb)
end
/-- An elder row of boxes beside what was made since. -/
theorem S_since {w w1 : World} {base : Nat} {v : Value} {xs : List ABox} (h : Kd.S kBox 77 w base (fun _ => True) v xs) (hb : Below w.heap.size w w1) : Kd.S kBox 77 w1 base (fun k => k < w.heap.size) v xs :=
  Kd.S_mono (Kd.S_old h hb) (fun _ hk => hk.2)
theorem boxes_take {bs : List ABox} {k : Nat} {nm : ByteArray} {nx : Int} {l : List AMail} (h : k < bs.length) (hb : bs[k] = (nm, nx, l)) : bs.take (k + 1) = bs.take k ++ [(nm, nx, l)] := by
  rw [List.take_succ_eq_append_getElem h, hb]
set_option maxHeartbeats 2000000 in
set_option maxRecDepth 100000 in
theorem states_calls (A : Option Addr) (c : Nat) (bs : List ABox) (A2 : Option Addr) (c2 : Nat) (es : List AEntry) (w : World) (hr : kBox.C w A bs.length bs) (hr2 : Kd.C kAEntry w A2 es.length es) (hl1 : bs.length ≤ 1048576) (hl2 : es.length ≤ 1048576) (hl3 : ∀ b ∈ bs, b.2.2.length ≤ 1048576) :
    Calls Tryd.prog 14 #[.agg #[.slice A bs.length c, .slice A2 es.length c2]] w fun e w' => ∃ vB vS : Value, e = .returned (.agg #[vB, vS]) ∧ Kd.S kBox 77 w' w.heap.size (fun _ => True) vB bs ∧ Kd.R kAEntry 40 w' w.heap.size (fun _ => True) vS es ∧ Below w.heap.size w w' := by
  have h63 := hr.2.1
  obtain ⟨W3, hW3⟩ : ∃ W3 : World, W3 = ((w.alloc (.cells #[.slice A bs.length c, .slice A2 es.length c2] 25)).alloc (.cells #[.slice none 0 0, .slice none 0 0] 25)).alloc (.cells #[.slice none 0 0, .slice none 0 0] 25) := ⟨_, rfl⟩
  have hP : Blk W3 w.heap.size [.slice A bs.length c, .slice A2 es.length c2] := by rw [hW3]; exact ((Blk.made w _ _).alloc _).alloc _
  have hQ : Blk W3 (w.heap.size + 1) [.slice none 0 0, .slice none 0 0] := by rw [hW3]; exact (Blk.made_at _ _ _ (by simp)).alloc _
  have hO : Blk W3 (w.heap.size + 1 + 1) [.slice none 0 0, .slice none 0 0] := by rw [hW3]; exact Blk.made_at _ _ _ (by simp)
  have hB0 : Below w.heap.size w W3 := by rw [hW3]; exact (by repeat (first | exact Below.refl _ _ | apply below_alloc | apply pw_below_drewN | apply below_drew1 | (refine Below.setCell ?_ (by first | (simp; done) | (simp; omega) | omega) _) ))
  have hz0 : W3.heap.size = w.heap.size + 1 + 1 + 1 := by rw [hW3]; simp
  replace hW3 := Lib.hid hW3
  go_enter Tryd.func14, Tryd.ntmps14
  go_wp2_with fail
  rw [← hW3.out]
  go_loopw [4] (fun i wr => ∃ (k : Nat) (vB : Value), k ≤ bs.length ∧ i = .int .i64 k ∧ Kd.S kBox 77 wr (w.heap.size + 1 + 1 + 1) (fun _ => True) vB (bs.take k) ∧ Blk wr w.heap.size [.slice A bs.length c, .slice A2 es.length c2] ∧ Blk wr (w.heap.size + 1) [.slice none 0 0, .slice none 0 0] ∧ Blk wr (w.heap.size + 1 + 1) [vB, .slice none 0 0] ∧ w.heap.size + 1 + 1 + 1 ≤ wr.heap.size ∧ Below w.heap.size w wr) (fun i _ => bs.length - (intOf i).toNat)
  case atStart => exact ⟨0, _, Nat.zero_le _, rfl, Kd.S_nil _ _ _ _ _, hP, hQ, hO, by omega, hB0⟩
  case round =>
    clear hP hQ hO hB0
    obtain ⟨k, vB, hk, rfl, hS, hP, hQ, hO, hz, hB⟩ := hrel
    have p0 := hP.at 0 _ rfl
    by_cases hlt : k < bs.length
    · obtain ⟨ad, Ae, ce, e1, x0, x1, x2, hC⟩ := box_at (Kd.C_below hr hB) k hlt
      subst e1
      rw [add1] at x1
      rw [add2] at x2
      have i0 : (0 : Int) ≤ (k : Int) := by omega
      have i1 : (k : Int) < (bs.length : Int) := by omega
      have hl4 := hl3 _ (List.getElem_mem hlt)
      obtain ⟨nm, nx, l, hbk⟩ : ∃ nm nx l, bs[k] = (nm, nx, l) := ⟨_, _, _, rfl⟩
      have htk := Lib.hid (boxes_take hlt hbk)
      rw [hbk] at x0 x1 x2 hC hl4
      simp only at x0 x1 x2 hC hl4
      clear hbk
      obtain ⟨Ab, cb, rfl⟩ := Kd.S_slice hS
      have hlk : (bs.take k).length = k := by rw [List.length_take]; omega
      rw [hlk] at hO
      rw [hlk] at hS
      replace hlk := Lib.hid hlk
      have hX := Blk.made wr #[.string nm, .int .i64 nx, .slice Ae l.length ce] 77
      have hB1 : Below wr.heap.size wr (wr.alloc (.cells #[.string nm, .int .i64 nx, .slice Ae l.length ce] 77)) := (by repeat (first | exact Below.refl _ _ | apply below_alloc | apply pw_below_drewN | apply below_drew1 | (refine Below.setCell ?_ (by first | (simp; done) | (simp; omega) | omega) _) ))
      go_wp2_with (at_builtin; refine clone_list rowAMail rfl _ _ rfl l Ae ce (by first | rfl | (simp [Act.eval]; done)) (by first | rfl | (simp [Act.eval]; done)) (Kd.C_below hC (by repeat (first | exact Below.refl _ _ | apply below_alloc | apply pw_below_drewN | apply below_drew1 | (refine Below.setCell ?_ (by first | (simp; done) | (simp; omega) | omega) _) ))) (by omega) ?_)
      intro A1 c1 w1 hR1 hb1
      have hz1 := hb1.size
      simp at hz1
      have hX1 := hX.below hb1 (by first | (simp; done) | (simp; omega) | omega)
      have hO1 := (hO.alloc (.cells #[.string nm, .int .i64 nx, .slice Ae l.length ce] 77)).below hb1 (by first | (simp; done) | (simp; omega) | omega)
      have nn : ¬ w.heap.size + 1 + 1 = wr.heap.size := by omega
      have nn2 : ¬ wr.heap.size = w.heap.size + 1 + 1 := by omega
      have o0 := hO1.at 0 _ rfl
      have o1 := hO1.free 0 _ rfl
      have y0 := hX1.at 0 _ rfl
      have y1 := hX1.at 1 _ rfl
      have y2 := hX1.at 2 _ rfl
      have f2 := hX1.free 2 _ rfl
      have hB2 : Below wr.heap.size wr w1 := hB1.trans (hb1.mono (by first | (simp; done) | (simp; omega) | omega))
      have hM2 : Kd.R kAMail 84 (w1.setCell ⟨wr.heap.size, 2, none⟩ (.slice A1 l.length c1)) (wr.heap.size + 1) (fun _ => True) (.slice A1 l.length c1) l := R_elder (Kd.R_lower hR1 (by simp)) (show wr.heap.size < wr.heap.size + 1 by omega) _
      have hS2 : Kd.S kBox 77 (w1.setCell ⟨wr.heap.size, 2, none⟩ (.slice A1 l.length c1)) (w.heap.size + 1 + 1 + 1) (fun k => k < wr.heap.size + 1) (.slice Ab k cb) (bs.take k) :=
        Kd.S_mono (Kd.S_far (p := ⟨wr.heap.size, 2, none⟩) (S_since hS hB2) (fun k hk => by show k ≠ wr.heap.size; omega) _) (fun k hk => by show k < wr.heap.size + 1; omega)
      go_wp2_with (at_builtin; refine snocS_list (w.heap.size + 1 + 1 + 1) (wr.heap.size + 1) rfl _ _ rfl (.slice Ab k cb) (bs.take k) nm nx l (.slice A1 l.length c1) (by first | rfl | (simp [Act.eval]; done)) (by first | rfl | (simp [Act.eval]; done)) hM2 (by omega) hS2 (by simp; omega) (by rw [hlk.out]; omega) ?_)
      intro v9 w9 hS9 hb9
      have hz9 := hb9.size
      simp at hz9
      have hO9 := (hO1.other (c := wr.heap.size) (j := 2) nn2 (.slice A1 l.length c1)).below hb9 (by omega)
      have hP9 := ((hP.below hB2 (by omega)).other (c := wr.heap.size) (j := 2) (by omega) (.slice A1 l.length c1)).below hb9 (by omega)
      have hQ9 := ((hQ.below hB2 (by omega)).other (c := wr.heap.size) (j := 2) (by omega) (.slice A1 l.length c1)).below hb9 (by omega)
      have g0 := hO9.at 0 _ rfl
      have g1 := hO9.free 0 _ rfl
      have hB9 : Below w.heap.size w w9 := by
        refine Below.trans (Below.setCell (hB.trans (hB2.mono (by omega))) (show w.heap.size ≤ wr.heap.size by omega) _) (hb9.mono (by omega))
      clear o0 o1 y0 y1 y2 f2 hO1 hX1 hS2 hM2 hb9 hb1 hR1
      obtain ⟨A9, c9, h9⟩ := Kd.S_slice hS9
      rw [List.length_append, hlk.out] at h9
      subst h9
      go_wp2_with fail
      go_roundw
      case rel => exact ⟨k + 1, _, hlt, by go_num, by rw [htk.out]; exact S_elder hS9 (by show w.heap.size + 1 + 1 < w.heap.size + 1 + 1 + 1; omega) _, hP9.other (by omega) _, hQ9.other (by omega) _, hO9.set 0 _ (by simp), by simp; omega, Below.setCell hB9 (by show w.heap.size ≤ w.heap.size + 1 + 1; omega) _⟩
      case measure => simp [intOf]; omega
    · obtain rfl : k = bs.length := by omega
      rw [List.take_length] at hS
      have p1 := hP.at 1 _ rfl
      have o1 := hO.free 1 _ rfl
      have o2 := hO.at 1 _ rfl
      have o0 := hO.at 0 _ rfl
      have i1 : ¬ (bs.length : Int) < (bs.length : Int) := by omega
      obtain ⟨Ab, cb, rfl⟩ := Kd.S_slice hS
      have HE := Lib.hid (entries_calls A2 c2 es wr (Kd.C_below hr2 hB) (by omega))
      go_wp2_with fail
      refine HE.out.mono ?_
      rintro e w1 ⟨A1, c1, rfl, hR1, hb1⟩
      have hz1 := hb1.size
      have hO1 := hO.below hb1 (by omega)
      have hQ1 := hQ.below hb1 (by omega)
      have g0 := hO1.at 0 _ rfl
      have g1 := hO1.at 1 _ rfl
      have g2 := hO1.free 1 _ rfl
      have q0 := hQ1.at 0 _ rfl
      have q1 := hQ1.at 1 _ rfl
      have q2 := hQ1.free 0 _ rfl
      have q3 := hQ1.free 1 _ rfl
      clear o0 o1 o2 p0 p1
      go_wp2_with fail
      refine bodyPost_ret (v := .agg #[.slice Ab bs.length cb, .slice A1 es.length c1]) (by simp [results, Tryd.results14, go_sem, *]) rfl ?_
      have hB1 := hB.trans (hb1.mono (by omega))
      refine ⟨_, _, rfl, ?_, ?_, (by repeat (first | exact Below.refl _ _ | apply below_alloc | apply pw_below_drewN | apply below_drew1 | (refine Below.setCell ?_ (by first | (simp; done) | (simp; omega) | omega) _) | exact hB1))⟩
      · exact Kd.S_lower (S_elder (S_elder (S_elder (Kd.S_below hS hb1) (show w.heap.size + 1 + 1 < w.heap.size + 1 + 1 + 1 by omega) _) (show w.heap.size + 1 < w.heap.size + 1 + 1 + 1 by omega) _) (show w.heap.size + 1 < w.heap.size + 1 + 1 + 1 by omega) _) (by omega)
      · exact Kd.R_lower (R_elder (R_elder (R_elder hR1 (show w.heap.size + 1 + 1 < wr.heap.size by omega) _) (show w.heap.size + 1 < wr.heap.size by omega) _) (show w.heap.size + 1 < wr.heap.size by omega) _) (by omega)
end Go.Proofs.YtijdghplfhfpaaaDoor.H
