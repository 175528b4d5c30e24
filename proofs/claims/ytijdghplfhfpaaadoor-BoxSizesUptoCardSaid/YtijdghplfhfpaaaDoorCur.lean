/- A reader's block: a text and a place in it. -/
import Derived.Test.YtijdghplfhfpaaaDoorBase
import Derived.Lib.HexFns
import Derived.Lib.BufferOwn
import Derived.Lib.BufferWrite
namespace Go.Proofs.YtijdghplfhfpaaaDoor.H
open Go.RowKit Go.Proofs.YtijdghplfhfpaaaDoorW.PrintWords Go.Proofs.YtijdghplfhfpaaaDoorW.PrintLast Go.Proofs.YtijdghplfhfpaaaDoorW.PrintMore Go.Proofs.YtijdghplfhfpaaaDoor.U
set_option linter.unusedVariables false
set_option linter.unusedSimpArgs false
/-- Block b holds a text and a place in it. -/
structure Cur (w : World) (b : Nat) (s : ByteArray) (i : Nat) : Prop where
  c0 : w.cell? ⟨b, 0, none⟩ = some (.string s)
  c1 : w.cell? ⟨b, 1, none⟩ = some (.int .i64 i)
  f0 : w.frozen? ⟨b, 0, none⟩ = false
  f1 : w.frozen? ⟨b, 1, none⟩ = false
  lt : b < w.heap.size
theorem Cur.below {w w1 : World} {b B : Nat} {s : ByteArray} {i : Nat} (h : Cur w b s i) (hb : Below B w w1) (hB : b < B) : Cur w1 b s i :=
  ⟨(hb.cell (p := ⟨b, 0, none⟩) hB).trans h.c0, (hb.cell (p := ⟨b, 1, none⟩) hB).trans h.c1, (hb.frozen (p := ⟨b, 0, none⟩) hB).trans h.f0, (hb.frozen (p := ⟨b, 1, none⟩) hB).trans h.f1, Nat.lt_of_lt_of_le h.lt hb.size⟩
theorem Cur.kept {w w1 : World} {b : Nat} {row : Option Nat} {s : ByteArray} {i : Nat} (h : Cur w b s i) (hg : w.grownBy w1 row) (hne : some b ≠ row) : Cur w1 b s i :=
  ⟨(hg.cell_far ⟨b, 0, none⟩ h.lt hne).trans h.c0, (hg.cell_far ⟨b, 1, none⟩ h.lt hne).trans h.c1, (hg.frozen_far ⟨b, 0, none⟩ h.lt hne).trans h.f0, (hg.frozen_far ⟨b, 1, none⟩ h.lt hne).trans h.f1, Nat.lt_of_lt_of_le h.lt hg.size⟩
theorem Cur.drawN {w : World} {b : Nat} {s : ByteArray} {i : Nat} (h : Cur w b s i) (q : Nat) : Cur (w.drewN q) b s i := ⟨by simpa using h.c0, by simpa using h.c1, by simpa using h.f0, by simpa using h.f1, by simpa using h.lt⟩
theorem Cur.drew {w : World} {b : Nat} {s : ByteArray} {i : Nat} (h : Cur w b s i) : Cur w.drew b s i := ⟨by simpa using h.c0, by simpa using h.c1, by simpa using h.f0, by simpa using h.f1, by simpa using h.lt⟩
theorem Cur.set {w : World} {b : Nat} {s : ByteArray} {i : Nat} (h : Cur w b s i) (k : Nat) : Cur (w.setCell ⟨b, 1, none⟩ (.int .i64 k)) b s k := by
  refine ⟨?_, World.cell?_setCell_same _ _ _ h.c1, ?_, ?_, by simpa using h.lt⟩
  · rw [World.cell?_setCell_other _ _ _ _ (by simp)]; exact h.c0
  · simpa using h.f0
  · simpa using h.f1
/-- A block that is made so. -/
theorem Cur.made (w : World) (s : ByteArray) (i t : Nat) : Cur (w.alloc (.cells #[.string s, .int .i64 i] t)) w.heap.size s i := ⟨by simp, by simp, by simp, by simp, by simp⟩
/-- The place that the block holds. -/
def placeOf (w : World) (b : Nat) : Nat := match w.cell? ⟨b, 1, none⟩ with | some (.int _ m) => m.toNat | _ => 0
theorem Cur.place {w : World} {b : Nat} {s : ByteArray} {i : Nat} (h : Cur w b s i) : placeOf w b = i := by simp [placeOf, h.c1]
theorem grown_drawN {w w1 : World} {row : Option Nat} (h : w.grownBy w1 row) (q : Nat) : w.grownBy (w1.drewN q) row := ⟨h.os, h.tape, h.output, h.size, h.block⟩
theorem grown_drew {w w1 : World} {row : Option Nat} (h : w.grownBy w1 row) : w.grownBy w1.drew row := ⟨h.os, h.tape, h.output, h.size, h.block⟩
theorem grown_set {w w1 : World} {b : Nat} (h : w.grownBy w1 (some b)) (i : Nat) (v : Value) : w.grownBy (w1.setCell ⟨b, i, none⟩ v) (some b) := Lib.grownBy_setB h i v
theorem grown_some {w w1 : World} {b : Nat} (h : w.grownBy w1 none) : w.grownBy w1 (some b) := ⟨h.os, h.tape, h.output, h.size, fun i hi _ => h.block i hi (by simp)⟩
theorem grown_trans {w w1 w2 : World} {row : Option Nat} (h : w.grownBy w1 row) (k : w1.grownBy w2 row) : w.grownBy w2 row :=
  ⟨k.os.trans h.os, k.tape.trans h.tape, k.output.trans h.output, Nat.le_trans h.size k.size, fun i hi hn => (k.block i (Nat.lt_of_lt_of_le hi h.size) hn).trans (h.block i hi hn)⟩
theorem below_of_row {w w1 : World} {b B : Nat} (h : w.grownBy w1 (some b)) (hB : B ≤ b) (hs : B ≤ w.heap.size) : Below B w w1 := ⟨h.os, h.tape, h.output, h.size, fun i hi => h.block i (by omega) (by simp; omega)⟩
theorem bcellB {B : Nat} {W w1 : World} (hb : Below B W w1) : (∀ b o, b < B → w1.cell? ⟨b, o, none⟩ = W.cell? ⟨b, o, none⟩) ∧ (∀ b o, b < B → w1.frozen? ⟨b, o, none⟩ = W.frozen? ⟨b, o, none⟩) :=
  ⟨fun b o h => hb.cell (p := ⟨b, o, none⟩) h, fun b o h => hb.frozen (p := ⟨b, o, none⟩) h⟩
theorem cell_below {B : Nat} {w w1 : World} {b o : Nat} {v : Value} (hb : Below B w w1) (h : w.cell? ⟨b, o, none⟩ = some v) (hp : b < B) : w1.cell? ⟨b, o, none⟩ = some v := (hb.cell (p := ⟨b, o, none⟩) hp).trans h
theorem quiet_eq {P : Program} {f : FuncId} {args : Array Value} {w : World} {n : Nat} {v : Value} (h : Calls P f args (w.drewN n) fun e w' => e = .returned v ∧ w.drewN n = w') : Calls P f args (w.drewN n) fun e w' => e = .returned v ∧ ∃ m, w' = w.drewN m :=
  h.mono fun e w' ⟨he, hw⟩ => ⟨he, n, hw.symm⟩
theorem quiet_same {P : Program} {f : FuncId} {args : Array Value} {w : World} {v : Value} (h : Calls P f args w fun e w' => e = .returned v ∧ w = w') : Calls P f args w fun e w' => e = .returned v ∧ ∃ n, w' = w.drewN n :=
  h.mono fun e w' ⟨he, hw⟩ => ⟨he, 0, hw.symm⟩
theorem grown_of_draws {w w1 : World} (h : ∃ n, w1 = w.drewN n) (row : Option Nat) : w.grownBy w1 row := by obtain ⟨n, rfl⟩ := h; exact grown_drawN (World.grownBy.refl _ _) n
theorem below_of_draws {w w1 : World} (h : ∃ n, w1 = w.drewN n) : Below w.heap.size w w1 := by obtain ⟨n, rfl⟩ := h; exact pw_below_drewN (Below.refl _ _) n
end Go.Proofs.YtijdghplfhfpaaaDoor.H
