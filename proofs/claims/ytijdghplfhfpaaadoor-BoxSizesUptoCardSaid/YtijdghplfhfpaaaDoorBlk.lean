/- A block known whole: its cells, none frozen; what becomes of it. -/
import Derived.Test.YtijdghplfhfpaaaDoorCur
import Derived.Defers
namespace Go.Proofs.YtijdghplfhfpaaaDoor.H
open Go.RowKit Go.Proofs.YtijdghplfhfpaaaDoorW.PrintWords Go.Proofs.YtijdghplfhfpaaaDoorW.PrintLast Go.Proofs.YtijdghplfhfpaaaDoorW.PrintMore Go.Proofs.YtijdghplfhfpaaaDoor.U
set_option linter.unusedVariables false
set_option linter.unusedSimpArgs false
/-- Block b holds these cells, and may be written. -/
def Blk (w : World) (b : Nat) (l : List Value) : Prop := b < w.heap.size ∧ ∀ i v, l[i]? = some v → w.cell? ⟨b, i, none⟩ = some v ∧ w.frozen? ⟨b, i, none⟩ = false
theorem Blk.lt {w : World} {b : Nat} {l : List Value} (h : Blk w b l) : b < w.heap.size := h.1
theorem Blk.at {w : World} {b : Nat} {l : List Value} (h : Blk w b l) (i : Nat) (v : Value) (hv : l[i]? = some v) : w.cell? ⟨b, i, none⟩ = some v := (h.2 i v hv).1
theorem Blk.free {w : World} {b : Nat} {l : List Value} (h : Blk w b l) (i : Nat) (v : Value) (hv : l[i]? = some v) : w.frozen? ⟨b, i, none⟩ = false := (h.2 i v hv).2
theorem Blk.made (w : World) (a : Array Value) (t : Nat) : Blk (w.alloc (.cells a t)) w.heap.size a.toList :=
  ⟨by simp, fun i v hv => ⟨by simpa using hv, by simp⟩⟩
theorem Blk.grown {w w1 : World} {row : Option Nat} {b : Nat} {l : List Value} (h : Blk w b l) (hg : w.grownBy w1 row) (hne : some b ≠ row) : Blk w1 b l :=
  ⟨Nat.lt_of_lt_of_le h.1 hg.size, fun i v hv => ⟨(hg.cell_far ⟨b, i, none⟩ h.1 hne).trans (h.at i v hv), (hg.frozen_far ⟨b, i, none⟩ h.1 hne).trans (h.free i v hv)⟩⟩
theorem Blk.below {w w1 : World} {b B : Nat} {l : List Value} (h : Blk w b l) (hb : Below B w w1) (hB : b < B) : Blk w1 b l :=
  ⟨Nat.lt_of_lt_of_le h.1 hb.size, fun i v hv => ⟨(hb.cell (p := ⟨b, i, none⟩) hB).trans (h.at i v hv), (hb.frozen (p := ⟨b, i, none⟩) hB).trans (h.free i v hv)⟩⟩
theorem Blk.other {w : World} {b c j : Nat} {l : List Value} (h : Blk w b l) (hne : c ≠ b) (u : Value) : Blk (w.setCell ⟨c, j, none⟩ u) b l :=
  ⟨by simpa using h.1, fun i v hv => ⟨by rw [World.cell?_setCell_other _ _ _ _ (by simp [hne.symm])]; exact h.at i v hv, by simpa using h.free i v hv⟩⟩
theorem Blk.set {w : World} {b : Nat} {l : List Value} (h : Blk w b l) (i : Nat) (u : Value) (hi : i < l.length) : Blk (w.setCell ⟨b, i, none⟩ u) b (l.set i u) := by
  refine ⟨by simpa using h.1, fun j v hv => ?_⟩
  have hj : j < l.length := by
    rcases Nat.lt_or_ge j l.length with hj | hj
    · exact hj
    · rw [List.getElem?_eq_none (by simpa using hj)] at hv; cases hv
  have old := h.2 j l[j] (List.getElem?_eq_getElem hj)
  refine ⟨?_, by simpa using old.2⟩
  by_cases e : i = j
  · subst e
    rw [List.getElem?_set_self hi] at hv
    obtain rfl := Option.some.inj hv
    exact World.cell?_setCell_same _ _ _ old.1
  · rw [List.getElem?_set_ne e] at hv
    rw [World.cell?_setCell_other _ _ _ _ (by first | (simp; done) | (simp; omega))]
    exact h.at j v hv
theorem Blk.drawN {w : World} {b : Nat} {l : List Value} (h : Blk w b l) (n : Nat) : Blk (w.drewN n) b l := ⟨by simpa using h.1, fun i v hv => ⟨by simpa using h.at i v hv, by simpa using h.free i v hv⟩⟩
theorem Blk.drew {w : World} {b : Nat} {l : List Value} (h : Blk w b l) : Blk w.drew b l := ⟨by simpa using h.1, fun i v hv => ⟨by simpa using h.at i v hv, by simpa using h.free i v hv⟩⟩
theorem Blk.alloc {w : World} {b : Nat} {l : List Value} (h : Blk w b l) (o : Obj) : Blk (w.alloc o) b l := h.below (Below.alloc (Below.refl _ _) (Nat.le_refl _) o) h.1
theorem Cur.alloc {w : World} {b i : Nat} {s : ByteArray} (h : Cur w b s i) (o : Obj) : Cur (w.alloc o) b s i := h.below (Below.alloc (Below.refl _ _) (Nat.le_refl _) o) h.lt
theorem Cur.other {w : World} {b i c j : Nat} {s : ByteArray} (h : Cur w b s i) (hne : c ≠ b) (u : Value) : Cur (w.setCell ⟨c, j, none⟩ u) b s i :=
  ⟨by rw [World.cell?_setCell_other _ _ _ _ (by simp [hne.symm])]; exact h.c0, by rw [World.cell?_setCell_other _ _ _ _ (by simp [hne.symm])]; exact h.c1, by simpa using h.f0, by simpa using h.f1, by simpa using h.lt⟩
theorem Cur.setI {w : World} {b i : Nat} {s : ByteArray} (h : Cur w b s i) (v : Int) (k : Nat) (hv : v = k) : Cur (w.setCell ⟨b, 1, none⟩ (.int .i64 v)) b s k := by subst hv; exact h.set k
theorem grown_alloc {w w1 : World} {row : Option Nat} (h : w.grownBy w1 row) (o : Obj) : w.grownBy (w1.alloc o) row := grown_trans h (World.grownBy_alloc _ _ _)
theorem grown_new {w w1 : World} {row : Option Nat} {B : Nat} (h : w.grownBy w1 row) (hB : w.heap.size ≤ B) (i : Nat) (v : Value) : w.grownBy (w1.setCell ⟨B, i, none⟩ v) row :=
  ⟨h.os, h.tape, h.output, by simpa [World.setCell] using h.size, fun k hk hn => (Below.heap_setCell _ _ _ _ (by first | (simp; done) | (simp; omega))).trans (h.block k hk hn)⟩
theorem grown_more {w w1 w2 : World} {row : Option Nat} {B : Nat} (h : w.grownBy w1 row) (k : Below B w1 w2) (hB : w.heap.size ≤ B) : w.grownBy w2 row :=
  ⟨k.os.trans h.os, k.tape.trans h.tape, k.output.trans h.output, Nat.le_trans h.size k.size, fun i hi hn => (k.block i (Nat.lt_of_lt_of_le hi hB)).trans (h.block i hi hn)⟩
theorem grown_cell {w w1 : World} {row : Option Nat} {b o : Nat} {v : Value} (hg : w.grownBy w1 row) (h : w.cell? ⟨b, o, none⟩ = some v) (hlt : b < w.heap.size) (hne : some b ≠ row) : w1.cell? ⟨b, o, none⟩ = some v := (hg.cell_far ⟨b, o, none⟩ hlt hne).trans h
theorem cell_alloc {w : World} {b o : Nat} {v : Value} (h : w.cell? ⟨b, o, none⟩ = some v) (hlt : b < w.heap.size) (x : Obj) : (w.alloc x).cell? ⟨b, o, none⟩ = some v := cell_below (Below.alloc (Below.refl _ _) (Nat.le_refl _) x) h hlt
theorem lt_of_cell' {w : World} {a : Addr} {v : Value} (h : w.cell? a = some v) : a.block < w.heap.size := by
  rcases Nat.lt_or_ge a.block w.heap.size with h1 | h1
  · exact h1
  · simp [World.cell?, Array.getElem?_eq_none h1] at h
theorem cell_alloc' {w : World} {a : Addr} {v : Value} (h : w.cell? a = some v) (o : Obj) : (w.alloc o).cell? a = some v :=
  (Below.cell (p := a) (Below.alloc (Below.refl w.heap.size w) (Nat.le_refl _) o) (lt_of_cell' h)).trans h
theorem cell_drew' {w : World} {a : Addr} {v : Value} (h : w.cell? a = some v) : w.drew.cell? a = some v := by simpa using h
theorem cell_other' {w : World} {a : Addr} {v : Value} {c j : Nat} (h : w.cell? a = some v) (hne : a.block ≠ c) (u : Value) : (w.setCell ⟨c, j, none⟩ u).cell? a = some v := by
  rw [World.cell?_setCell_other _ _ _ _ (by intro e; have e2 := congrArg Addr.block e; first | exact hne e2 | exact hne e2.symm)]; exact h
theorem cell_other {w : World} {b o c j : Nat} {v : Value} (h : w.cell? ⟨b, o, none⟩ = some v) (hne : c ≠ b) (u : Value) : (w.setCell ⟨c, j, none⟩ u).cell? ⟨b, o, none⟩ = some v := by
  rw [World.cell?_setCell_other _ _ _ _ (by simp [hne.symm])]; exact h
/-- A block of the call's own has been written. -/
theorem below_row2 {w wr w1 : World} {b : Nat} (hB : Below w.heap.size w wr) (hg : wr.grownBy w1 (some (w.heap.size + b))) : Below w.heap.size w w1 :=
  hB.trans ⟨hg.os, hg.tape, hg.output, hg.size, fun i hi => hg.block i (by have := hB.size; omega) (by simp; omega)⟩
theorem Blk.made_at {w : World} (a : Array Value) (t n : Nat) (h : w.heap.size = n) : Blk (w.alloc (.cells a t)) n a.toList := by subst h; exact Blk.made w a t
theorem Cur.made_at {w : World} (s : ByteArray) (i t n : Nat) (h : w.heap.size = n) : Cur (w.alloc (.cells #[.string s, .int .i64 i] t)) n s i := by subst h; exact Cur.made w s i t
/-- In a function that defers: what a panic leaves hangs on the slots that its results name alone. -/
theorem leaves_put {P : Program} {fn : Func} {R : Ending → World → Prop} {tmps tmps' : Array Value} (h : results fn tmps = results fn tmps') : ∀ (ds : List Deferred) (u : FrameMode) (w : World), Leaves P fn tmps R ds u w → Leaves P fn tmps' R ds u w
  | [], .returning, w, ⟨v, hr, hR⟩ => ⟨v, h ▸ hr, hR⟩
  | [], .panicking _, w, hh => hh
  | d :: ds, u, w, ⟨h1, fv, cap, f, args, h2, h3, h4⟩ => ⟨h1, fv, cap, f, args, h2, h3, h4.mono fun e u' w' he => by
      cases e with
      | returned v => exact leaves_put h ds _ _ he
      | panicked c => exact leaves_put h ds _ _ he
      | outgrown => exact he⟩
theorem panic_put {P : Program} {fn : Func} {R : Ending → World → Prop} {a : Act} {c : List PanicEntry} {w : World} {d : Nat} {v : Value} (h : results fn (a.tmps.setIfInBounds d v) = results fn a.tmps)
    (hh : bodyPostD P fn R (.panic c) (a.put (some d) v) w) : bodyPostD P fn R (.panic c) a w := leaves_put h _ _ _ hh
section
variable {P : Program} {ops : Array Oper} {o : Oper} {a : Act} {Q : Exit → Act → World → Prop} {Kc : Act → World → Prop} {α : Type} {d : Kd α} {t e bytes : Nat} {z : Value}
/-- append(v, x) in a region that draws, x's cells cs in the literal's block. -/
theorem snoc_step (T : RowT P d t e bytes z) (base : Nat) {W : World} (hw : Region.wanted o (yielded ops a.tmps) = true) (s x : Operand)
    (ho : o.op = .call { callee := .builtin .append, args := #[s, x], argTypes := #[t, t] })
    (v : Value) (xs : List α) (p : α) (cs : List Value) (hs : a.eval s = v) (hx : a.eval x = .slice (some ⟨W.heap.size, 0, none⟩) 1 1) (hp : d.K W p cs)
    (HO : d.R e W base (fun _ => True) v xs) (hbase : base ≤ W.heap.size) (hl : (xs.length + 1) * bytes ≤ 140737488355328)
    (h : ∀ v1 w1, d.R e w1 base (fun _ => True) v1 (xs ++ [p]) → Below base W w1 → W.grownBy w1 v.ownBlock → Kc (a.put o.dst v1) w1) :
    if Region.wanted o (yielded ops a.tmps) = true then Oper.wp P o a (W.alloc (.cells cs.toArray e)) Kc Q else Kc (a.put o.dst undef) (W.alloc (.cells cs.toArray e)) :=
  Kd.R_append_step d (w0 := W) base hw s x t e z bytes ho T.ht T.hinfo T.hz T.hs0 T.hb0 v xs p cs (fun _ => True) (fun _ => False) hs hx (T.flat W p cs hp _ _) (fun _ h => h.elim) (fun _ _ => trivial) HO (Below.refl _ _) hbase hl
    (fun v1 w1 hR hb hg _ => h v1 w1 hR hb hg)
theorem R_grownE {w w1 : World} {base b : Nat} {v : Value} {xs : List α} {ok : Nat → Prop} (h : d.R e w base ok v xs) (hg : w.grownBy w1 (some b)) (hb : b < base) : d.R e w1 base (fun _ => True) v xs :=
  Kd.R_mono (Kd.R_grown (Kd.R_bound h) hg (fun k hk he => by have := hk.2.1; simp at he; omega)) (fun _ _ => trivial)
/-- What a block below the row's base holds, the row's writing keeps. -/
theorem Blk.beside {w w1 : World} {b : Nat} {l : List Value} {base : Nat} {v : Value} {xs : List α} {ok : Nat → Prop} (h : Blk w b l) (hR : d.R e w base ok v xs) (hg : w.grownBy w1 v.ownBlock) (hb : b < base) : Blk w1 b l := by
  obtain ⟨inner, ho⟩ := Kd.R_own hR
  exact h.grown hg (fun he => by have := own_base ho b he.symm; omega)
end
end Go.Proofs.YtijdghplfhfpaaaDoor.H
