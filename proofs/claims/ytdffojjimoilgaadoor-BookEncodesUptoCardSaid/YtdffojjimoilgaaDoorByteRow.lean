/- Rows of bytes that the call owns; blocks of another type beside them. -/
import Derived.Test.YtdffojjimoilgaaDoorBlk
import Derived.Test.YtdffojjimoilgaaDoorBase
namespace Go.Proofs.YtdffojjimoilgaaDoor.H
open Go.RowKit Go.Proofs.YtdffojjimoilgaaDoorW.PrintWords Go.Proofs.YtdffojjimoilgaaDoorW.PrintLast Go.Proofs.YtdffojjimoilgaaDoorW.PrintMore Go.Proofs.YtdffojjimoilgaaDoor.U
set_option linter.unusedVariables false
set_option linter.unusedSimpArgs false
/-- A block known whole, its type besides. -/
def BlkT (w : World) (b t : Nat) (l : List Value) : Prop := Blk w b l ∧ ∃ cs, w.heap[b]? = some (.cells cs t (0, 0))
theorem BlkT.made (w : World) (a : Array Value) (t : Nat) : BlkT (w.alloc (.cells a t)) w.heap.size t a.toList := ⟨Blk.made w a t, a, by show (w.heap.push _)[w.heap.size]? = _; rw [Array.getElem?_push_size]⟩
theorem BlkT.made_at {w : World} (a : Array Value) (t n : Nat) (h : w.heap.size = n) : BlkT (w.alloc (.cells a t)) n t a.toList := by subst h; exact BlkT.made w a t
theorem BlkT.below {w w1 : World} {b t B : Nat} {l : List Value} (h : BlkT w b t l) (hb : Below B w w1) (hB : b < B) : BlkT w1 b t l :=
  ⟨h.1.below hb hB, by obtain ⟨cs, hc⟩ := h.2; exact ⟨cs, (hb.block b hB).trans hc⟩⟩
theorem BlkT.alloc {w : World} {b t : Nat} {l : List Value} (h : BlkT w b t l) (o : Obj) : BlkT (w.alloc o) b t l := h.below (Below.alloc (Below.refl _ _) (Nat.le_refl _) o) h.1.1
theorem BlkT.row {α : Type} {d : Kd α} {e base : Nat} {ok : Nat → Prop} {w w1 : World} {v : Value} {xs : List α} {b t : Nat} {l : List Value} (h : BlkT w b t l) (hR : d.R e w base ok v xs) (hg : w.grownBy w1 v.ownBlock) (ht : e ≠ t) : BlkT w1 b t l := by
  obtain ⟨cs, hc⟩ := h.2
  have hne := Kd.R_ne hR hc ht
  exact ⟨h.1.grown hg hne, cs, (hg.block b h.1.1 hne).trans hc⟩
/-- Blocks of another type than e are as they were. -/
def KeepT (e : Nat) (w w1 : World) : Prop := w.heap.size ≤ w1.heap.size ∧ ∀ b t l, e ≠ t → BlkT w b t l → BlkT w1 b t l
theorem KeepT.refl (e : Nat) (w : World) : KeepT e w w := ⟨Nat.le_refl _, fun _ _ _ _ h => h⟩
theorem KeepT.trans {e : Nat} {w w1 w2 : World} (h : KeepT e w w1) (h2 : KeepT e w1 w2) : KeepT e w w2 := ⟨Nat.le_trans h.1 h2.1, fun b t l ht hb => h2.2 b t l ht (h.2 b t l ht hb)⟩
theorem KeepT.alloc (e : Nat) (w : World) (o : Obj) : KeepT e w (w.alloc o) := ⟨by simp, fun _ _ _ _ h => h.alloc o⟩
theorem KeepT.below {e : Nat} {w w1 : World} (h : Below w.heap.size w w1) : KeepT e w w1 := ⟨h.size, fun _ _ _ _ hb => hb.below h hb.1.1⟩
theorem KeepT.row {α : Type} {d : Kd α} {e base : Nat} {ok : Nat → Prop} {w w1 : World} {v : Value} {xs : List α} (hR : d.R e w base ok v xs) (hg : w.grownBy w1 v.ownBlock) : KeepT e w w1 := ⟨hg.size, fun _ _ _ ht hb => hb.row hR hg ht⟩
section
variable {P : Program} {ops : Array Oper} {rest : List Oper} {o : Oper} {a : Act} {Q : Exit → Act → World → Prop}
/-- append(v, y...), y a text. -/
theorem str_list {t u e : Nat} (T : RowT P (Kd.int .u8) t e 1 (.int .u8 0)) (hu : P.underlying u = some .string) (base : Nat) {W : World} (hgd : o.guard = none) (s x : Operand)
    (ho : o.op = .call { callee := .builtin .append, args := #[s, x], argTypes := #[t, u] })
    (v : Value) (xs : List Int) (y : ByteArray) (hs : a.eval s = v) (hx : a.eval x = .string y)
    (HO : (Kd.int .u8).R e W base (fun _ => True) v xs) (hbase : base ≤ W.heap.size) (hl : xs.length + y.size ≤ 140737488355328)
    (h : ∀ v1 w1, (Kd.int .u8).R e w1 base (fun _ => True) v1 (xs ++ bytesOf y) → Below base W w1 → W.grownBy w1 v.ownBlock → wpList P ops Q rest (a.put o.dst v1) w1) : wpList P ops Q (o :: rest) a W :=
  print_append_str (w0 := W) base hgd s x t u e ho T.ht hu T.hinfo v xs y hs hx (Kd.own_of_R HO) (Below.refl _ _) hbase hl (fun v1 w1 hR hb hg => h v1 w1 (Kd.R_of_own hR (fun _ _ => trivial)) hb hg)
end
end Go.Proofs.YtdffojjimoilgaaDoor.H
