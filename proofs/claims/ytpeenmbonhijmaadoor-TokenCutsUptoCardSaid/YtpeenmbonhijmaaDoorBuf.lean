/- A strings.Builder as the text that it holds: what its methods do. -/
import Derived.Test.YtpeenmbonhijmaaDoorBuildA
import Derived.Test.YtpeenmbonhijmaaDoorBlk
namespace Go.Proofs.YtpeenmbonhijmaaDoor.H
open Go.RowKit Go.Proofs.YtpeenmbonhijmaaDoorW.PrintWords Go.Proofs.YtpeenmbonhijmaaDoorW.PrintLast Go.Proofs.YtpeenmbonhijmaaDoorW.PrintMore Go.Proofs.YtpeenmbonhijmaaDoor.U
set_option linter.unusedVariables false
set_option linter.unusedSimpArgs false
/-- Block b is a builder (its blocks from B on) that holds s. -/
def Buf (B b : Nat) (s : ByteArray) (w : World) : Prop := IsB B b (Lib.strCells s) w
theorem strCells_cat (a b : ByteArray) : Lib.strCells (a ++ b) = Lib.strCells a ++ Lib.strCells b := by
  rw [Lib.strCells_eq, Lib.strCells_eq, Lib.strCells_eq, ByteArray.data_append, Array.toList_append, Lib.byteCells_append]
theorem strCells_len (s : ByteArray) : (Lib.strCells s).length = s.size := by
  rw [Lib.strCells_eq, Lib.byteCells_length]; simp
theorem IsB.below {B b : Nat} {bs : List Value} {w w1 : World} (h : IsB B b bs w) (hb : Below w.heap.size w w1) : IsB B b bs w1 := by
  have key : ∀ {p : Value}, Lib.BuilderAt 122 5 B b p bs w → Lib.BuilderAt 122 5 B b p bs w1 := fun {p} h => by
    obtain ⟨hB, v, h0, hown, hne⟩ := h
    exact ⟨hB, v, (hb.block b (blk_lt h0)).trans h0, pw_own_below hown hb, hne⟩
  exact h.elim (fun x => .inl (key x)) (fun x => .inr (key x))
theorem Buf.below {B b : Nat} {s : ByteArray} {w w1 : World} (h : Buf B b s w) (hb : Below w.heap.size w w1) : Buf B b s w1 := IsB.below h hb
theorem Buf.drew {B b : Nat} {s : ByteArray} {w : World} (h : Buf B b s w) : Buf B b s w.drew := h
theorem Buf.drawN {B b : Nat} {s : ByteArray} {w : World} (h : Buf B b s w) (n : Nat) : Buf B b s (w.drewN n) := h
theorem Buf.alloc' {B b : Nat} {s : ByteArray} {w : World} (h : Buf B b s w) (o : Obj) : Buf B b s (w.alloc o) := h.below (Below.alloc (Below.refl _ _) (Nat.le_refl _) o)
theorem Buf.fresh (w : World) : Buf w.heap.size w.heap.size ⟨#[]⟩ (w.alloc (.cells #[.pointer none, .slice none 0 0] 122)) := by
  simpa [Buf, Lib.strCells] using Lib.fresh_isBuilder 122 5 w
theorem Buf.lt {B b : Nat} {s : ByteArray} {w : World} (h : Buf B b s w) : b < w.heap.size := by
  rcases h with ⟨_, _, h0, _⟩ | ⟨_, _, h0, _⟩ <;> exact blk_lt h0
theorem Buf.ge {B b : Nat} {s : ByteArray} {w : World} (h : Buf B b s w) : B ≤ b := by
  rcases h with ⟨h0, _⟩ | ⟨h0, _⟩ <;> exact h0
theorem buf_write (B b : Nat) (s t : ByteArray) (w : World) (h : Buf B b s w) (hz : s.size + t.size ≤ 140737488355328) :
    Calls Tryd.prog 82 #[.pointer (some ⟨b, 0, none⟩), .string t] w fun e w' => e = .returned (.tuple #[.int .i64 t.size, .nilIface]) ∧ Buf B b (s ++ t) w' ∧ Below B w w' :=
  (writeString_calls B b (Lib.strCells s) t w h (by rw [strCells_len]; exact hz) (by have := h.lt; have := h.ge; omega)).mono fun e w' ⟨he, hA, hb⟩ => ⟨he, by unfold Buf; rw [strCells_cat]; exact .inr hA, hb⟩
theorem buf_byte (B b : Nat) (s : ByteArray) (c : UInt8) (w : World) (h : Buf B b s w) (hz : s.size + 1 ≤ 140737488355328) :
    Calls Tryd.prog 85 #[.pointer (some ⟨b, 0, none⟩), .int .u8 c.toNat] w fun e w' => e = .returned .nilIface ∧ Buf B b (s ++ (⟨#[c]⟩ : ByteArray)) w' ∧ Below B w w' :=
  (writeByte_calls B b (Lib.strCells s) c.toNat w h (by rw [strCells_len]; exact hz) (by have := h.lt; have := h.ge; omega)).mono fun e w' ⟨he, hA, hb⟩ => ⟨he, by unfold Buf; rw [strCells_cat]; exact .inr hA, hb⟩
theorem buf_len (B b : Nat) (s : ByteArray) (w : World) (h : Buf B b s w) :
    Calls Tryd.prog 86 #[.pointer (some ⟨b, 0, none⟩)] w fun e w' => e = .returned (.int .i64 s.size) ∧ w = w' :=
  (Tryd.Builder_Len B b (Lib.strCells s) w h).mono fun e w' ⟨he, hw⟩ => ⟨by rw [he, strCells_len], hw.symm⟩
theorem buf_string (B b : Nat) (s : ByteArray) (w : World) (h : Buf B b s w) :
    Calls Tryd.prog 87 #[.pointer (some ⟨b, 0, none⟩)] w fun e w' => e = .returned (.string s) ∧ Below B w w' :=
  (Tryd.Builder_String_any B b s.data.toList w h (by have := h.lt; have := h.ge; omega)).mono fun e w' ⟨he, hb⟩ => ⟨by rw [he], hb⟩
end Go.Proofs.YtpeenmbonhijmaaDoor.H
