/- Rows of bytes that the call owns; blocks of another type beside them. -/
import Derived.Test.YtijdghplfhfpaaaDoorBlk
import Derived.Test.YtijdghplfhfpaaaDoorBase
namespace Go.Proofs.YtijdghplfhfpaaaDoor.H
open Go.RowKit Go.Proofs.YtijdghplfhfpaaaDoorW.PrintWords Go.Proofs.YtijdghplfhfpaaaDoorW.PrintLast Go.Proofs.YtijdghplfhfpaaaDoorW.PrintMore Go.Proofs.YtijdghplfhfpaaaDoor.U
set_option linter.unusedVariables false
set_option linter.unusedSimpArgs false
/-- A block known whole, its type besides. -/
def BlkT (w : World) (b t : Nat) (l : List Value) : Prop := Blk w b l ∧ ∃ cs, w.heap[b]? = some (.cells cs t (0, 0))
theorem BlkT.made (w : World) (a : Array Value) (t : Nat) : BlkT (w.alloc (.cells a t)) w.heap.size t a.toList := ⟨Blk.made w a t, a, by show (w.heap.push _)[w.heap.size]? = _; rw [Array.getElem?_push_size]⟩
theorem BlkT.made_at {w : World} (a : Array Value) (t n : Nat) (h : w.heap.size = n) : BlkT (w.alloc (.cells a t)) n t a.toList := by subst h; exact BlkT.made w a t
theorem BlkT.below {w w1 : World} {b t B : Nat} {l : List Value} (h : BlkT w b t l) (hb : Below B w w1) (hB : b < B) : BlkT w1 b t l :=
  ⟨h.1.below hb hB, by obtain ⟨cs, hc⟩ := h.2; exact ⟨cs, (hb.block b hB).trans hc⟩⟩
theorem BlkT.alloc {w : World} {b t : Nat} {l : List Value} (h : BlkT w b t l) (o : Obj) : BlkT (w.alloc o) b t l := h.below (Below.alloc (Below.refl _ _) (Nat.le_refl _) o) h.1.1
theorem BlkT.row {α : Type} {d : Kd α} {e base : Nat} {ok : Nat → Prop} {w w1 : World} {v : Value} {xs : List α} {b t : Nat} {l : List Value} (h : BlkT w b t l) (hR : d.R e w base ok v xs) (hg : w.grownBy w1 v.ownBlock) (ht : e ≠ t) : BlkT w1 b t l := by
  obtain ⟨cs, hc⟩ := h.2
  have hne := Kd.R_ne hR hc ht
  exact ⟨h.1.grown hg hne, cs, (hg.block b h.1.1 hne).trans hc⟩
/-- Blocks of another type than e are as they were. -/
def KeepT (e : Nat) (w w1 : World) : Prop := w.heap.size ≤ w1.heap.size ∧ ∀ b t l, e ≠ t → BlkT w b t l → BlkT w1 b t l
theorem KeepT.refl (e : Nat) (w : World) : KeepT e w w := ⟨Nat.le_refl _, fun _ _ _ _ h => h⟩
theorem KeepT.trans {e : Nat} {w w1 w2 : World} (h : KeepT e w w1) (h2 : KeepT e w1 w2) : KeepT e w w2 := ⟨Nat.le_trans h.1 h2.1, fun b t l ht hb => h2.2 b t l ht (h.2 b t l ht hb)⟩
theorem KeepT.alloc (e : Nat) (w : World) (o : Obj) : KeepT e w (w.alloc o) := ⟨by simp, fun _ _ _ _ h => h.alloc o⟩
theorem KeepT.below {e : Nat} {w w1 : World} (h : Below w.heap.size w w1) : KeepT e w w1 := ⟨h.size, fun _ _ _ _ hb => hb.below h hb.1.1⟩
theorem KeepT.row {α : Type} {d : Kd α} {e base : Nat} {ok : Nat → Prop} {w w1 : World} {v : Value} {xs : List α} (hR : d.R e w base ok v xs) (hg : w.grownBy w1 v.ownBlock) : KeepT e w w1 := ⟨hg.size, fun _ _ _ ht hb => hb.row hR hg ht⟩
theorem grown_step {w w1 w2 : World} {r r1 : Option Nat} (h : w.grownBy w1 r) (h1 : w1.grownBy w2 r1) (hr : r1 = r ∨ ∃ b, r1 = some b ∧ w.heap.size ≤ b) : w.grownBy w2 r :=
  ⟨h1.os.trans h.os, h1.tape.trans h.tape, h1.output.trans h.output, Nat.le_trans h.size h1.size, fun k hk hne => (h1.block k (Nat.lt_of_lt_of_le hk h.size) (by
    rcases hr with rfl | ⟨b, rfl, hb⟩
    · exact hne
    · intro he; have := Option.some.inj he; omega)).trans (h.block k hk hne)⟩
theorem own_step {w w1 : World} {r r1 r2 : Option Nat} (h : r1 = r ∨ ∃ b, r1 = some b ∧ w.heap.size ≤ b) (h2 : r2 = r1 ∨ ∃ b, r2 = some b ∧ w1.heap.size ≤ b) (hz : w.heap.size ≤ w1.heap.size) : r2 = r ∨ ∃ b, r2 = some b ∧ w.heap.size ≤ b := by
  rcases h2 with rfl | ⟨b, rfl, hb⟩
  · exact h
  · exact .inr ⟨b, rfl, by omega⟩
/-- A store into a block of another type. -/
theorem R_setT {e base b t i : Nat} {w : World} {v : Value} {xs : List Int} {l : List Value} (h : (Kd.int .u8).R e w base (fun _ => True) v xs) (hT : BlkT w b t l) (ht : e ≠ t) (u : Value) : (Kd.int .u8).R e (w.setCell ⟨b, i, none⟩ u) base (fun _ => True) v xs :=
  Kd.R_mono (Kd.R_far (Kd.R_bound h) (fun k hk he => by
    obtain ⟨_, _, _, q, hq, cells, hc⟩ := hk
    obtain ⟨cs, hcs⟩ := hT.2
    have he2 : k = b := by first | exact he | exact he.symm
    rw [he2, hcs] at hc
    injection hc with hc
    injection hc with _ h2 _
    have hq2 : q = e := by simpa [Kd.int, Kd.scalar] using hq
    exact ht (by rw [← hq2, ← h2])) u) (fun _ _ => trivial)
theorem R_neT {e base b t : Nat} {w : World} {v : Value} {xs : List Int} {l : List Value} (h : (Kd.int .u8).R e w base (fun _ => True) v xs) (hT : BlkT w b t l) (ht : e ≠ t) : (Kd.int .u8).R e w base (fun k => k ≠ b) v xs :=
  Kd.R_mono (Kd.R_bound h) (fun k hk he => by
    obtain ⟨_, _, _, q, hq, cells, hc⟩ := hk
    obtain ⟨cs, hcs⟩ := hT.2
    rw [he, hcs] at hc
    injection hc with hc
    injection hc with _ h2 _
    have hq2 : q = e := by simpa [Kd.int, Kd.scalar] using hq
    exact ht (by rw [← hq2, ← h2]))
theorem R_set2 {e base b t i j : Nat} {w : World} {v : Value} {xs : List Int} {l : List Value} (h : (Kd.int .u8).R e w base (fun _ => True) v xs) (hT : BlkT w b t l) (ht : e ≠ t) (u u2 : Value) : (Kd.int .u8).R e ((w.setCell ⟨b, i, none⟩ u).setCell ⟨b, j, none⟩ u2) base (fun _ => True) v xs :=
  Kd.R_mono (Kd.R_far (Kd.R_far (R_neT h hT ht) (fun k hk => hk) u) (fun k hk => hk) u2) (fun _ _ => trivial)
/-- A row that stands apart from the one that is written. -/
theorem R_apart {α : Type} {d : Kd α} {e base : Nat} {w w1 : World} {v : Value} {xs : List α} {r : Option Nat} (h : d.R e w base (fun _ => True) v xs) (hg : w.grownBy w1 r) (hr : ∀ b, r = some b → b < base) : d.R e w1 base (fun _ => True) v xs := by
  cases r with
  | none => exact Kd.R_below h (below_of_grown hg)
  | some b => exact R_grownE h hg (hr b rfl)
section
variable {P : Program} {ops : Array Oper} {rest : List Oper} {o : Oper} {a : Act} {Q : Exit → Act → World → Prop}
theorem snoc_own {α : Type} {d : Kd α} {t e bytes : Nat} {z : Value} (T : RowT P d t e bytes z) (base : Nat) {W : World} (hgd : o.guard = none) (s x : Operand)
    (ho : o.op = .call { callee := .builtin .append, args := #[s, x], argTypes := #[t, t] })
    (v : Value) (xs : List α) (p : α) (cs : List Value) (hs : a.eval s = v) (hx : a.eval x = .slice (some ⟨W.heap.size, 0, none⟩) 1 1) (hp : d.K W p cs)
    (HO : d.R e W base (fun _ => True) v xs) (hbase : base ≤ W.heap.size) (hl : (xs.length + 1) * bytes ≤ 140737488355328)
    (h : ∀ v1 w1, d.R e w1 base (fun _ => True) v1 (xs ++ [p]) → Below base W w1 → W.grownBy w1 v.ownBlock → (v1.ownBlock = v.ownBlock ∨ ∃ b, v1.ownBlock = some b ∧ W.heap.size ≤ b) → wpList P ops Q rest (a.put o.dst v1) w1) :
    wpList P ops Q (o :: rest) a (W.alloc (.cells cs.toArray e)) :=
  Kd.R_append d (w0 := W) base hgd s x t e z bytes ho T.ht T.hinfo T.hz T.hs0 T.hb0 v xs p cs (fun _ => True) (fun _ => False) hs hx (T.flat W p cs hp _ _) (fun _ h => h.elim) (fun _ _ => trivial) HO (Below.refl _ _) hbase hl h
/-- append(v, y...), y a text. -/
theorem str_list {t u e : Nat} (T : RowT P (Kd.int .u8) t e 1 (.int .u8 0)) (hu : P.underlying u = some .string) (base : Nat) {W : World} (hgd : o.guard = none) (s x : Operand)
    (ho : o.op = .call { callee := .builtin .append, args := #[s, x], argTypes := #[t, u] })
    (v : Value) (xs : List Int) (y : ByteArray) (hs : a.eval s = v) (hx : a.eval x = .string y)
    (HO : (Kd.int .u8).R e W base (fun _ => True) v xs) (hbase : base ≤ W.heap.size) (hl : xs.length + y.size ≤ 140737488355328)
    (h : ∀ v1 w1, (Kd.int .u8).R e w1 base (fun _ => True) v1 (xs ++ bytesOf y) → Below base W w1 → W.grownBy w1 v.ownBlock → wpList P ops Q rest (a.put o.dst v1) w1) : wpList P ops Q (o :: rest) a W :=
  print_append_str (w0 := W) base hgd s x t u e ho T.ht hu T.hinfo v xs y hs hx (Kd.own_of_R HO) (Below.refl _ _) hbase hl (fun v1 w1 hR hb hg => h v1 w1 (Kd.R_of_own hR (fun _ _ => trivial)) hb hg)
end
end Go.Proofs.YtijdghplfhfpaaaDoor.H
