/- The claim ScriptShowsUptoCardSaid, part 2 of 8. -/
import Derived.Test.YtijdghplfhfpaaaDoorScriptShowsK1
import Derived.Lib.ConvBytes
import Derived.Deep.QuietTactic
import Derived.BigQuiet
import Derived.Defers
import Derived.Recover
/- The walks of the functions that fold letters. -/
namespace Go.Proofs.YtijdghplfhfpaaaDoor.H
open Go.RowKit Go.Proofs.YtijdghplfhfpaaaDoorW.PrintWords Go.Proofs.YtijdghplfhfpaaaDoorW.PrintLast Go.Proofs.YtijdghplfhfpaaaDoor.U
set_option linter.unusedVariables false
set_option linter.unusedSimpArgs false
end Go.Proofs.YtijdghplfhfpaaaDoor.H

/- glob.Match at the kind Is. -/
namespace Go.Proofs.YtijdghplfhfpaaaDoor.H
open Go.RowKit Go.Proofs.YtijdghplfhfpaaaDoorW.PrintWords Go.Proofs.YtijdghplfhfpaaaDoorW.PrintLast Go.Proofs.YtijdghplfhfpaaaDoor.U
set_option linter.unusedVariables false
set_option linter.unusedSimpArgs false
end Go.Proofs.YtijdghplfhfpaaaDoor.H

/- Lines: what stands behind a word. -/
namespace Go.Proofs.YtijdghplfhfpaaaDoor.H
open Go.RowKit Go.Proofs.YtijdghplfhfpaaaDoorW.PrintWords Go.Proofs.YtijdghplfhfpaaaDoorW.PrintLast Go.Proofs.YtijdghplfhfpaaaDoor.U
set_option linter.unusedVariables false
set_option linter.unusedSimpArgs false
end Go.Proofs.YtijdghplfhfpaaaDoor.H

/- Lists of addresses: the reader's address: the walk. -/
namespace Go.Proofs.YtijdghplfhfpaaaDoor.H
open Go.RowKit Go.Proofs.YtijdghplfhfpaaaDoorW.PrintWords Go.Proofs.YtijdghplfhfpaaaDoorW.PrintLast Go.Proofs.YtijdghplfhfpaaaDoor.U
set_option linter.unusedVariables false
set_option linter.unusedSimpArgs false
end Go.Proofs.YtijdghplfhfpaaaDoor.H

/- Rows of addresses: the walks. -/
namespace Go.Proofs.YtijdghplfhfpaaaDoor.H
open Go.RowKit Go.Proofs.YtijdghplfhfpaaaDoorW.PrintWords Go.Proofs.YtijdghplfhfpaaaDoorW.PrintLast Go.Proofs.YtijdghplfhfpaaaDoor.U
set_option linter.unusedVariables false
set_option linter.unusedSimpArgs false
def eqbAAddress (x y : AAddress) : Bool := x.loc.toList == y.loc.toList && (x.dom.toList == y.dom.toList)
theorem eqbAAddress_iff {x y : AAddress} : eqbAAddress x y = true ↔ x = y := by
  cases x; cases y
  simp only [eqbAAddress, Bool.and_eq_true, beq_iff_eq, ByteArray.toList_eq, bytes_iff, AAddress.mk.injEq]
theorem eqbAAddress_self (x : AAddress) : eqbAAddress x x = true := eqbAAddress_iff.2 rfl
theorem eqAAddress (d : Nat) (w : World) (x_loc : ByteArray) (x_dom : ByteArray) (y_loc : ByteArray) (y_dom : ByteArray) :
    (Op.equalIn (d + 2) 49 (.agg #[.string x_loc, .string x_dom]) (.agg #[.string y_loc, .string y_dom])).run Tryd.prog w = .ok (eqbAAddress ⟨x_loc, x_dom⟩ ⟨y_loc, y_dom⟩) w := by
  refine eqA_of Tryd.underlying49 (by kernel_rfl) ?_
  refine eqf_cons (by rfl) (by go_simp; rfl) (by go_simp; rfl) (by go_simp) ?_
  exact eqf_last (by rfl) (by go_simp; rfl) (by go_simp; rfl) (by go_simp)
attribute [local go_sem high] eqAAddress
attribute [local go_sem high] eqbAAddress_self
attribute [-go_sem] eqbAAddress_self
end Go.Proofs.YtijdghplfhfpaaaDoor.H

/- Lists of addresses: who.List, its deferred closure: the walks. -/
namespace Go.Proofs.YtijdghplfhfpaaaDoor.H
open Go.RowKit Go.Proofs.YtijdghplfhfpaaaDoorW.PrintWords Go.Proofs.YtijdghplfhfpaaaDoorW.PrintLast Go.Proofs.YtijdghplfhfpaaaDoor.U
set_option linter.unusedVariables false
set_option linter.unusedSimpArgs false
end Go.Proofs.YtijdghplfhfpaaaDoor.H

/- who.Part and the reference's PartOf: the walks. -/
namespace Go.Proofs.YtijdghplfhfpaaaDoor.H
open Go.RowKit Go.Proofs.YtijdghplfhfpaaaDoorW.PrintWords Go.Proofs.YtijdghplfhfpaaaDoorW.PrintLast Go.Proofs.YtijdghplfhfpaaaDoor.U
set_option linter.unusedVariables false
set_option linter.unusedSimpArgs false
end Go.Proofs.YtijdghplfhfpaaaDoor.H

/- Lines: an address in < and >: the walks. -/
namespace Go.Proofs.YtijdghplfhfpaaaDoor.H
open Go.RowKit Go.Proofs.YtijdghplfhfpaaaDoorW.PrintWords Go.Proofs.YtijdghplfhfpaaaDoorW.PrintLast Go.Proofs.YtijdghplfhfpaaaDoor.U
set_option linter.unusedVariables false
set_option linter.unusedSimpArgs false
end Go.Proofs.YtijdghplfhfpaaaDoor.H

/- Lines: the reference's address in < and >. -/
namespace Go.Proofs.YtijdghplfhfpaaaDoor.H
open Go.RowKit Go.Proofs.YtijdghplfhfpaaaDoorW.PrintWords Go.Proofs.YtijdghplfhfpaaaDoorW.PrintLast Go.Proofs.YtijdghplfhfpaaaDoor.U
set_option linter.unusedVariables false
set_option linter.unusedSimpArgs false
end Go.Proofs.YtijdghplfhfpaaaDoor.H

/- Sessions: the walks of sessions, lmtp.Check and the reference's SessionFault. -/
namespace Go.Proofs.YtijdghplfhfpaaaDoor.H
open Go.RowKit Go.Proofs.YtijdghplfhfpaaaDoorW.PrintWords Go.Proofs.YtijdghplfhfpaaaDoorW.PrintLast Go.Proofs.YtijdghplfhfpaaaDoor.U
set_option linter.unusedVariables false
set_option linter.unusedSimpArgs false
attribute [local go_sem high] eqAAddress eqbAAddress_self
end Go.Proofs.YtijdghplfhfpaaaDoor.H

/- Lines: a session that goes on: its block, and what stands behind a MAIL line. -/
namespace Go.Proofs.YtijdghplfhfpaaaDoor.H
open Go.RowKit Go.Proofs.YtijdghplfhfpaaaDoorW.PrintWords Go.Proofs.YtijdghplfhfpaaaDoorW.PrintLast Go.Proofs.YtijdghplfhfpaaaDoor.U
set_option linter.unusedVariables false
set_option linter.unusedSimpArgs false
/-- A session. -/
structure Ses where
  st : Int
  fr : AAddress
  to_ : List AAddress
  tx : ByteArray
  lg : Bool
/-- What lies above block b is as it was. -/
def Above (b : Nat) (w w' : World) : Prop := ∀ i, b < i → i < w.heap.size → w'.heap[i]? = w.heap[i]?
theorem above_grown {w w' : World} {b : Nat} (h : w.grownBy w' (some b)) : Above b w w' := fun i hi hl => h.block i hl (fun he => by have := Option.some.inj he; omega)
theorem above_trans {w w1 w2 : World} {b : Nat} (h : Above b w w1) (hz : w.heap.size ≤ w1.heap.size) (k : Above b w1 w2) : Above b w w2 := fun i hi hl => (k i hi (by omega)).trans (h i hi hl)
theorem above_set {w : World} {b c j : Nat} (h : c ≤ b) (v : Value) : Above b w (w.setCell ⟨c, j, none⟩ v) := fun i hi _ => Below.heap_setCell w ⟨c, j, none⟩ v i (by show i ≠ c; omega)
/-- A list of addresses that lies above block b. -/
def ToR (w : World) (b : Nat) (A : Option Addr) (l : List AAddress) : Prop := ∀ w', Above b w w' → Kd.C kAAddress w' A l.length l
theorem ToR.now {w : World} {b : Nat} {A : Option Addr} {l : List AAddress} (h : ToR w b A l) : Kd.C kAAddress w A l.length l := h w (fun _ _ _ => rfl)
theorem ToR.grown {w w1 : World} {b : Nat} {A : Option Addr} {l : List AAddress} (h : ToR w b A l) (hg : w.grownBy w1 (some b)) : ToR w1 b A l := fun w2 h2 => h w2 (above_trans (above_grown hg) hg.size h2)
theorem ToR.set {w : World} {b c j : Nat} {A : Option Addr} {l : List AAddress} (h : ToR w b A l) (hc : c ≤ b) (v : Value) : ToR (w.setCell ⟨c, j, none⟩ v) b A l := fun w2 h2 => h w2 (above_trans (above_set hc v) (by simp) h2)
/-- Block b holds a session. -/
def SesAt (w : World) (b : Nat) (s : Ses) : Prop :=
  ∃ A c, Blk w b [.int .i64 s.st, .string s.fr.loc, .string s.fr.dom, .slice A s.to_.length c, .string s.tx, .bool s.lg] ∧ s.to_.length ≤ c ∧ ToR w b A s.to_
theorem SesAt.below {w w1 : World} {b B : Nat} {s : Ses} (h : SesAt w b s) (hb : Below B w w1) (hB : b < B) (hw : w.heap.size ≤ B) : SesAt w1 b s := by
  obtain ⟨A, c, h1, h2, h3⟩ := h
  exact ⟨A, c, h1.below hb hB, h2, h3.grown (grown_more (World.grownBy.refl _ _) hb hw)⟩
/-- A session goes on, and a code is told. -/
def PostSes (w : World) (b : Nat) (r : Ses × Int) (e : Ending) (w' : World) : Prop := e = .returned (.int .i64 r.2) ∧ SesAt w' b r.1 ∧ w.grownBy w' (some b)
theorem PostSes.same {w w1 : World} {b : Nat} {s : Ses} {k : Int} {e : Ending} (he : e = .returned (.int .i64 k)) (h : SesAt w b s) (hb : Below w.heap.size w w1) : PostSes w b (s, k) e w1 :=
  ⟨he, h.below hb (by obtain ⟨_, _, h1, _⟩ := h; exact h1.lt) (Nat.le_refl _), grown_more (World.grownBy.refl _ _) hb (Nat.le_refl _)⟩
end Go.Proofs.YtijdghplfhfpaaaDoor.H

/- Lines: is a name among those that are known? -/
namespace Go.Proofs.YtijdghplfhfpaaaDoor.H
open Go.RowKit Go.Proofs.YtijdghplfhfpaaaDoorW.PrintWords Go.Proofs.YtijdghplfhfpaaaDoorW.PrintLast Go.Proofs.YtijdghplfhfpaaaDoor.U
set_option linter.unusedVariables false
set_option linter.unusedSimpArgs false
set_option maxHeartbeats 1000000 in
set_option maxRecDepth 100000 in
theorem texts_calls (A : Option Addr) (c : Nat) (l : List ByteArray) (w : World) (hr : Kd.C Kd.string w A l.length l) (hl : l.length * 16 ≤ 140737488355328) :
    Calls Tryd.prog 30 #[.slice A l.length c] w fun e w' => ∃ v : Value, e = .returned v ∧ Kd.R Kd.string 9 w' w.heap.size (fun _ => True) v l ∧ Below w.heap.size w w' := by
  go_enter Tryd.func30, Tryd.ntmps30
  go_wp2_with (at_builtin; refine clone_list rowStr rfl _ _ rfl l A c rfl rfl (Kd.C_below hr (by repeat (first | exact Below.refl _ _ | apply below_alloc | apply pw_below_drewN | apply below_drew1))) (by omega) ?_; intro A1 c1 w1 hR hb1)
  go_ret
  exact ⟨_, rfl, hR, hb1⟩
end Go.Proofs.YtijdghplfhfpaaaDoor.H

/- Rows of bytes that the call owns; blocks of another type beside them. -/
namespace Go.Proofs.YtijdghplfhfpaaaDoor.H
open Go.RowKit Go.Proofs.YtijdghplfhfpaaaDoorW.PrintWords Go.Proofs.YtijdghplfhfpaaaDoorW.PrintLast Go.Proofs.YtijdghplfhfpaaaDoor.U
set_option linter.unusedVariables false
set_option linter.unusedSimpArgs false
/-- A block known whole, its type besides. -/
def BlkT (w : World) (b t : Nat) (l : List Value) : Prop := Blk w b l ∧ ∃ cs, w.heap[b]? = some (.cells cs t (0, 0))
theorem BlkT.made (w : World) (a : Array Value) (t : Nat) : BlkT (w.alloc (.cells a t)) w.heap.size t a.toList := ⟨Blk.made w a t, a, by show (w.heap.push _)[w.heap.size]? = _; rw [Array.getElem?_push_size]⟩
theorem BlkT.made_at {w : World} (a : Array Value) (t n : Nat) (h : w.heap.size = n) : BlkT (w.alloc (.cells a t)) n t a.toList := by subst h; exact BlkT.made w a t
theorem BlkT.below {w w1 : World} {b t B : Nat} {l : List Value} (h : BlkT w b t l) (hb : Below B w w1) (hB : b < B) : BlkT w1 b t l :=
  ⟨h.1.below hb hB, by obtain ⟨cs, hc⟩ := h.2; exact ⟨cs, (hb.block b hB).trans hc⟩⟩
theorem BlkT.alloc {w : World} {b t : Nat} {l : List Value} (h : BlkT w b t l) (o : Obj) : BlkT (w.alloc o) b t l := h.below (Below.alloc (Below.refl _ _) (Nat.le_refl _) o) h.1.1
theorem BlkT.row {α : Type} {d : Kd α} {e base : Nat} {ok : Nat → Prop} {w w1 : World} {v : Value} {xs : List α} {b t : Nat} {l : List Value} (h : BlkT w b t l) (hR : d.R e w base ok v xs) (hg : w.grownBy w1 v.ownBlock) (ht : e ≠ t) : BlkT w1 b t l := by
  obtain ⟨cs, hc⟩ := h.2
  have hne := Kd.R_ne hR hc ht
  exact ⟨h.1.grown hg hne, cs, (hg.block b h.1.1 hne).trans hc⟩
/-- Blocks of another type than e are as they were. -/
def KeepT (e : Nat) (w w1 : World) : Prop := w.heap.size ≤ w1.heap.size ∧ ∀ b t l, e ≠ t → BlkT w b t l → BlkT w1 b t l
theorem KeepT.refl (e : Nat) (w : World) : KeepT e w w := ⟨Nat.le_refl _, fun _ _ _ _ h => h⟩
theorem KeepT.trans {e : Nat} {w w1 w2 : World} (h : KeepT e w w1) (h2 : KeepT e w1 w2) : KeepT e w w2 := ⟨Nat.le_trans h.1 h2.1, fun b t l ht hb => h2.2 b t l ht (h.2 b t l ht hb)⟩
theorem KeepT.alloc (e : Nat) (w : World) (o : Obj) : KeepT e w (w.alloc o) := ⟨by simp, fun _ _ _ _ h => h.alloc o⟩
theorem KeepT.below {e : Nat} {w w1 : World} (h : Below w.heap.size w w1) : KeepT e w w1 := ⟨h.size, fun _ _ _ _ hb => hb.below h hb.1.1⟩
theorem KeepT.row {α : Type} {d : Kd α} {e base : Nat} {ok : Nat → Prop} {w w1 : World} {v : Value} {xs : List α} (hR : d.R e w base ok v xs) (hg : w.grownBy w1 v.ownBlock) : KeepT e w w1 := ⟨hg.size, fun _ _ _ ht hb => hb.row hR hg ht⟩
section
variable {P : Program} {ops : Array Oper} {rest : List Oper} {o : Oper} {a : Act} {Q : Exit → Act → World → Prop}
end
end Go.Proofs.YtijdghplfhfpaaaDoor.H

/- Scripts: how they are shown: the plain law; the writer's put, flag and list. -/
namespace Go.Proofs.YtijdghplfhfpaaaDoor.H
open Go.RowKit Go.Proofs.YtijdghplfhfpaaaDoorW.PrintWords Go.Proofs.YtijdghplfhfpaaaDoorW.PrintLast Go.Proofs.YtijdghplfhfpaaaDoor.U
set_option linter.unusedVariables false
set_option linter.unusedSimpArgs false
theorem rowAToken : RowT Tryd.prog kAToken 67 119 32 (.agg #[.int .i64 0, .string ⟨#[]⟩, .int .i64 0]) :=
  ⟨Tryd.underlying67, by kernel_rfl, rfl, by decide, by decide, flat_kd⟩
def tk (k : Int) (s : ByteArray) : AToken := ⟨k, s, 0⟩
def sepGo : List ByteArray → List AToken
  | [] => []
  | s :: l => tk 5 (⟨#[44]⟩ : ByteArray) :: tk 4 s :: sepGo l
/-- Strings so far, the mark ahead of them. -/
def headS : List ByteArray → List AToken
  | [] => []
  | s :: l => tk 5 (⟨#[91]⟩ : ByteArray) :: tk 4 s :: sepGo l
def strsV : List ByteArray → List AToken
  | [] => [tk 5 (⟨#[91]⟩ : ByteArray), tk 5 (⟨#[93]⟩ : ByteArray)]
  | [s] => [tk 4 s]
  | l => headS l ++ [tk 5 (⟨#[93]⟩ : ByteArray)]
theorem sep_snoc : ∀ (l : List ByteArray) (x : ByteArray), sepGo (l ++ [x]) = sepGo l ++ [tk 5 (⟨#[44]⟩ : ByteArray), tk 4 x]
  | [], x => rfl
  | s :: l, x => by rw [List.cons_append, sepGo, sepGo, sep_snoc l x]; rfl
theorem head_first (x : ByteArray) : headS ([] ++ [x]) = ([] ++ [tk 5 (⟨#[91]⟩ : ByteArray)]) ++ [tk 4 x] := rfl
theorem head_snoc {l : List ByteArray} (h : 0 < l.length) (x : ByteArray) : headS (l ++ [x]) = (headS l ++ [tk 5 (⟨#[44]⟩ : ByteArray)]) ++ [tk 4 x] := by
  cases l with
  | nil => simp at h
  | cons s l => rw [List.cons_append, headS, headS, sep_snoc]; simp
theorem head_len : ∀ l : List ByteArray, (headS l).length ≤ 2 * l.length
  | [] => Nat.le_refl _
  | s :: l => by
    have : ∀ l : List ByteArray, (sepGo l).length = 2 * l.length := by
      intro l
      induction l with
      | nil => rfl
      | cons a l ih => rw [sepGo]; simp only [List.length_cons, ih]; omega
    rw [headS]; simp only [List.length_cons, this]; omega
theorem strs_one (s : ByteArray) : strsV [s] = [tk 4 s] := rfl
theorem strs_many {l : List ByteArray} (h : 1 < l.length) : strsV l = headS l ++ [tk 5 (⟨#[93]⟩ : ByteArray)] := by
  match l, h with
  | _ :: _ :: _, _ => rfl
theorem strs_len {l : List ByteArray} (h : 0 < l.length) : (strsV l).length ≤ 2 * l.length + 1 := by
  by_cases h1 : 1 < l.length
  · rw [strs_many h1]
    have := head_len l
    simp only [List.length_append, List.length_cons, List.length_nil]; omega
  · match l, h with
    | [s], _ => simp [strs_one]
    | a :: b :: l, _ => simp at h1
/-- Block b holds the tokens that are written. -/
def WrAt (w : World) (b : Nat) (l : List AToken) : Prop := ∃ A n c, Blk w b [.slice A n c] ∧ Kd.R kAToken 119 w (b + 1) (fun _ => True) (.slice A n c) l
/-- All blocks of other kinds, but b, are as they were. -/
def KeepW (b : Nat) (w w1 : World) : Prop := w.heap.size ≤ w1.heap.size ∧ ∀ c t l, c ≠ b → 119 ≠ t → BlkT w c t l → BlkT w1 c t l
theorem KeepW.trans {b : Nat} {w w1 w2 : World} (h : KeepW b w w1) (k : KeepW b w1 w2) : KeepW b w w2 := ⟨Nat.le_trans h.1 k.1, fun c t l hc ht hb => k.2 c t l hc ht (h.2 c t l hc ht hb)⟩
theorem KeepW.below {b : Nat} {w w1 : World} (h : Below w.heap.size w w1) : KeepW b w w1 := ⟨h.size, fun _ _ _ _ _ hb => hb.below h hb.1.1⟩
/-- Tokens were written into b's row. -/
def Wrote (b : Nat) (w w1 : World) : Prop := Below b w w1 ∧ KeepW b w w1
theorem Wrote.refl (b : Nat) (w : World) : Wrote b w w := ⟨Below.refl _ _, KeepW.below (Below.refl _ _)⟩
theorem Wrote.trans {b : Nat} {w w1 w2 : World} (h : Wrote b w w1) (k : Wrote b w1 w2) : Wrote b w w2 := ⟨h.1.trans k.1, h.2.trans k.2⟩
theorem Wrote.fresh {b : Nat} {w w1 : World} (h : Below w.heap.size w w1) (hb : b ≤ w.heap.size) : Wrote b w w1 := ⟨h.mono hb, KeepW.below h⟩
theorem Wrote.alloc {b : Nat} {w w1 : World} (h : Wrote b w w1) (hb : b ≤ w1.heap.size) (o : Obj) : Wrote b w (w1.alloc o) := h.trans (Wrote.fresh ((Below.refl _ _).alloc (Nat.le_refl _) o) hb)
theorem BlkT.other {w : World} {b c j t : Nat} {l : List Value} (h : BlkT w c t l) (hne : b ≠ c) (u : Value) : BlkT (w.setCell ⟨b, j, none⟩ u) c t l := by
  obtain ⟨h1, cs, h2⟩ := h
  exact ⟨h1.other hne u, cs, by rw [Below.heap_setCell w ⟨b, j, none⟩ u c (by show c ≠ b; exact fun e => hne e.symm)]; exact h2⟩
set_option maxHeartbeats 1000000 in
set_option maxRecDepth 100000 in
theorem put_calls (b : Nat) (l : List AToken) (k : Int) (s : ByteArray) (w : World) (h : WrAt w b l) (hl : l.length ≤ 1073741824) :
    Calls Tryd.prog 112 #[.pointer (some ⟨b, 0, none⟩), .int .i64 k, .string s] w fun e w' => e = .returned (.tuple #[]) ∧ WrAt w' b (l ++ [tk k s]) ∧ Wrote b w w' := by
  obtain ⟨A, n, c, hK, hR⟩ := h
  have b0 := hK.at 0 _ rfl
  have g0 := hK.free 0 _ rfl
  have bl := hK.lt
  replace hl := Lib.hid hl
  go_enter Tryd.func112, Tryd.ntmps112
  go_wp2_with (at_builtin; refine snoc_list rowAToken (b + 1) rfl _ _ rfl (.slice A n c) l (tk k s) [.int .i64 k, .string s, .int .i64 0] (by first | rfl | (simp [Act.eval]; done)) (by first | rfl | (simp [Act.eval]; done)) rfl hR (by omega) (by have := hl.out; omega) ?_)
  intro v1 w1 hR1 hb1 hg1
  obtain ⟨A1, n1, rfl⟩ : ∃ A1 n1, v1 = .slice A1 (l ++ [tk k s]).length n1 := Kd.R_slice hR1
  have hK1 := hK.beside hR hg1 (by omega)
  generalize hn : (l ++ [tk k s]).length = n2 at *
  replace hn := Lib.hid hn
  have b1 := hK1.at 0 _ rfl
  have g1 := hK1.free 0 _ rfl
  have bl1 := hK1.lt
  have hBb : Below b w w1 := hb1.mono (by omega)
  have hKW : KeepW b w w1 := ⟨hg1.size, fun c t l _ ht hb => hb.row hR hg1 ht⟩
  go_wp2_with fail
  go_end0
  exact ⟨rfl, ⟨A1, n2, n1, hK1.set 0 _ (by simp), R_elder hR1 (by show b < b + 1; omega) _⟩, Below.setCell hBb (Nat.le_refl _) _, ⟨by simpa using hKW.1, fun c t l hc ht hb => (hKW.2 c t l hc ht hb).other (fun e => hc e.symm) _⟩⟩
set_option maxHeartbeats 1000000 in
set_option maxRecDepth 100000 in
theorem flag_calls (b : Bool) (w : World) : Calls Tryd.prog 163 #[.bool b] w fun e w' => e = .returned (.int .i64 (if b = true then 1 else 0)) ∧ w' = w := by
  cases b
  all_goals
    go_enter Tryd.func163, Tryd.ntmps163
    go_wp2_with fail
    go_ret
    exact ⟨rfl, rfl⟩
end Go.Proofs.YtijdghplfhfpaaaDoor.H

/- Scripts: the writer's list. -/
namespace Go.Proofs.YtijdghplfhfpaaaDoor.H
open Go.RowKit Go.Proofs.YtijdghplfhfpaaaDoorW.PrintWords Go.Proofs.YtijdghplfhfpaaaDoorW.PrintLast Go.Proofs.YtijdghplfhfpaaaDoor.U
set_option linter.unusedVariables false
set_option linter.unusedSimpArgs false
/-- A row that lies below block b. -/
def Und {α : Type} (d : Kd α) (w : World) (b : Nat) (A : Option Addr) (l : List α) : Prop := ∃ w0 : World, w0.heap.size ≤ b ∧ Below w0.heap.size w0 w ∧ Kd.C d w0 A l.length l
def UndK {α : Type} (d : Kd α) (w : World) (b : Nat) (x : α) (cs : List Value) : Prop := ∃ w0 : World, w0.heap.size ≤ b ∧ Below w0.heap.size w0 w ∧ d.K w0 x cs
theorem Und.step {α : Type} {d : Kd α} {w w1 : World} {b : Nat} {A : Option Addr} {l : List α} (h : Und d w b A l) (hb : Below b w w1) : Und d w1 b A l := by
  obtain ⟨w0, h1, h2, h3⟩ := h
  exact ⟨w0, h1, h2.trans (hb.mono h1), h3⟩
theorem UndK.step {α : Type} {d : Kd α} {w w1 : World} {b : Nat} {x : α} {cs : List Value} (h : UndK d w b x cs) (hb : Below b w w1) : UndK d w1 b x cs := by
  obtain ⟨w0, h1, h2, h3⟩ := h
  exact ⟨w0, h1, h2.trans (hb.mono h1), h3⟩
theorem Und.now {α : Type} {d : Kd α} {w : World} {b : Nat} {A : Option Addr} {l : List α} (h : Und d w b A l) : Kd.C d w A l.length l := by
  obtain ⟨w0, h1, h2, h3⟩ := h
  exact Kd.C_below h3 h2
theorem UndK.now {α : Type} {d : Kd α} {w : World} {b : Nat} {x : α} {cs : List Value} (h : UndK d w b x cs) : d.K w x cs := by
  obtain ⟨w0, h1, h2, h3⟩ := h
  exact d.K_below h2 h3
/-- An element of such a row. -/
theorem Und.elem {α : Type} {d : Kd α} {w : World} {b s : Nat} {A : Option Addr} {l : List α} (h : Und d w b A l) (hs : d.sz = s) (k : Nat) (hk : k < l.length) :
    ∃ ad cs, A = some ad ∧ UndK d w b l[k] cs ∧ ∀ w1, Below b w w1 → (∀ u, cs[0]? = some u → w1.cell? (ad.add (k * s)) = some u) ∧ ∀ j u, 0 < j → cs[j]? = some u → w1.cell? ⟨(ad.add (k * s)).block, (ad.add (k * s)).off + j, none⟩ = some u := by
  obtain ⟨w0, h1, h2, h3⟩ := h
  obtain ⟨ad, cs, e, hK, hx0, hxj⟩ := elem_at h3 hs k hk
  exact ⟨ad, cs, e, ⟨w0, h1, h2, hK⟩, fun w1 hb => ⟨fun u hu => pw_cell_below (h2.trans (hb.mono h1)) (hx0 u hu), fun j u hj hu => pw_cell_below (h2.trans (hb.mono h1)) (hxj j u hj hu)⟩⟩
theorem WrAt.lt {w : World} {b : Nat} {l : List AToken} (h : WrAt w b l) : b < w.heap.size := by obtain ⟨_, _, _, hK, _⟩ := h; exact hK.lt
theorem WrAt.below {w w1 : World} {b : Nat} {l : List AToken} (h : WrAt w b l) (hb : Below w.heap.size w w1) : WrAt w1 b l := by
  obtain ⟨A, n, c, hK, hR⟩ := h
  exact ⟨A, n, c, hK.below hb hK.lt, Kd.R_below hR hb⟩
set_option maxHeartbeats 1000000 in
set_option maxRecDepth 100000 in
theorem wlist_calls (b : Nat) (l0 : List AToken) (A : Option Addr) (c : Nat) (l : List ByteArray) (w : World) (h : WrAt w b l0) (hr : Und Kd.string w b A l) (h0 : 0 < l.length) (hl : l0.length + 2 * l.length + 1 ≤ 1073741824) :
    Calls Tryd.prog 114 #[.pointer (some ⟨b, 0, none⟩), .slice A l.length c] w fun e w' => e = .returned (.tuple #[]) ∧ WrAt w' b (l0 ++ strsV l) ∧ Wrote b w w' := by
  have h63 := hr.now.2.1
  by_cases h1 : l.length = 1
  · obtain ⟨s, rfl⟩ : ∃ s, l = [s] := by
      match l, h1 with
      | [s], _ => exact ⟨s, rfl⟩
    rw [strs_one]
    have HP := Lib.hid (put_calls b l0 4 s w h (by omega))
    obtain ⟨ad, e1, q0⟩ := string_at hr.now 0 (by simp)
    have ez : ad.add 0 = ad := by simp [Addr.add]
    rw [ez] at q0
    subst e1
    clear h hr ez
    simp only [List.getElem_cons_zero] at q0
    go_enter Tryd.func114, Tryd.ntmps114
    go_wp2_with fail
    refine HP.out.mono ?_
    rintro e w1 ⟨rfl, hW, hB⟩
    replace hW := Lib.hid hW
    go_wp2_with fail
    refine bodyPost_ret (results_none rfl _ _ _) rfl ?_
    exact ⟨rfl, hW.out, hB⟩
  · rw [strs_many (by omega)]
    have hlb : ((l.length : Int) == 1) = false := by rw [beq_eq_false_iff_ne]; omega
    have HP := Lib.hid (fun l k s w h hl => put_calls b l k s w h hl)
    replace h := Lib.hid h
    replace hr := Lib.hid hr
    replace hl := Lib.hid hl
    clear h1
    go_enter Tryd.func114, Tryd.ntmps114
    go_wp2_with fail
    go_loopw [16] (fun i wr => ∃ k : Nat, k ≤ l.length ∧ i = .int .i64 k ∧ WrAt wr b (l0 ++ headS (l.take k)) ∧ Wrote b w wr) (fun i _ => l.length - (intOf i).toNat)
    case atStart => exact ⟨0, Nat.zero_le _, rfl, by simpa [headS] using h.out, Wrote.refl _ _⟩
    case round =>
      obtain ⟨k, hk, rfl, hW, hB⟩ := hrel
      by_cases hlt : k < l.length
      · obtain ⟨ad, e1, q0⟩ := string_at (hr.out.step hB.1).now k hlt
        subst e1
        have hts := List.take_succ_eq_append_getElem hlt
        have hlk : (l.take k).length = k := by rw [List.length_take]; omega
        have hhl := head_len (l.take k)
        generalize l[k] = x at *
        have i0 : (0 : Int) ≤ (k : Int) := by omega
        have i1 : (k : Int) < (l.length : Int) := by omega
        have hlim : (l0 ++ headS (l.take k)).length + 2 ≤ 1073741824 := by have := hl.out; rw [List.length_append]; omega
        have hA := hW.below ((Below.refl _ _).alloc (Nat.le_refl _) (.cells #[.string (⟨#[44]⟩ : ByteArray), .string (⟨#[91]⟩ : ByteArray)] 9))
        have hO := Blk.made wr #[.string (⟨#[44]⟩ : ByteArray), .string (⟨#[91]⟩ : ByteArray)] 9
        have o0 := hO.at 0 _ rfl
        have o1 := hO.at 1 _ rfl
        have hBa : Wrote b w (wr.alloc (.cells #[.string (⟨#[44]⟩ : ByteArray), .string (⟨#[91]⟩ : ByteArray)] 9)) := hB.alloc (Nat.le_of_lt hW.lt) _
        replace hlim := Lib.hid hlim
        by_cases hk0 : k = 0
        · subst hk0
          have ez : ad.add 0 = ad := by simp [Addr.add]
          rw [ez] at q0
          clear ez
          have hts2 := Lib.hid (show headS (l.take (0 + 1)) = (headS (l.take 0) ++ [tk 5 (⟨#[91]⟩ : ByteArray)]) ++ [tk 4 x] by rw [hts]; exact head_first x)
          clear hts hlk hhl
          generalize headS (l.take 0) = H at *
          replace hA := Lib.hid hA
          clear hW
          go_wp2_with (go_at_call 163; refine (flag_calls _ _).mono ?_; rintro e w' ⟨rfl, rfl⟩)
          refine (HP.out (l0 ++ H) 5 (⟨#[91]⟩ : ByteArray) _ hA.out (by have := hlim.out; omega)).mono ?_
          rintro e w1 ⟨rfl, hW1, hB1⟩
          have HQ := Lib.hid (HP.out _ 4 x w1 hW1 (by have := hlim.out; rw [List.length_append]; simp only [List.length_cons, List.length_nil]; omega))
          clear hW1
          go_wp2_with fail
          refine HQ.out.mono ?_
          rintro e w2 ⟨rfl, hW2, hB2⟩
          replace hW2 := Lib.hid hW2
          go_wp2_with fail
          go_roundw
          case rel => exact ⟨0 + 1, hlt, by go_num, by rw [hts2.out]; simpa using hW2.out, hBa.trans (hB1.trans hB2)⟩
          case measure => simp [intOf]; omega
        · have hkb : ((k : Int) == 0) = false := by rw [beq_eq_false_iff_ne]; omega
          have hts2 := Lib.hid (show headS (l.take (k + 1)) = (headS (l.take k) ++ [tk 5 (⟨#[44]⟩ : ByteArray)]) ++ [tk 4 x] by rw [hts]; exact head_snoc (by omega) x)
          clear hts hlk hhl hk0
          generalize headS (l.take k) = H at *
          replace hA := Lib.hid hA
          clear hW
          go_wp2_with (go_at_call 163; refine (flag_calls _ _).mono ?_; rintro e w' ⟨rfl, rfl⟩)
          refine (HP.out (l0 ++ H) 5 (⟨#[44]⟩ : ByteArray) _ hA.out (by have := hlim.out; omega)).mono ?_
          rintro e w1 ⟨rfl, hW1, hB1⟩
          have HQ := Lib.hid (HP.out _ 4 x w1 hW1 (by have := hlim.out; rw [List.length_append]; simp only [List.length_cons, List.length_nil]; omega))
          clear hW1
          go_wp2_with fail
          refine HQ.out.mono ?_
          rintro e w2 ⟨rfl, hW2, hB2⟩
          replace hW2 := Lib.hid hW2
          go_wp2_with fail
          go_roundw
          case rel => exact ⟨k + 1, hlt, by go_num, by rw [hts2.out]; simpa using hW2.out, hBa.trans (hB1.trans hB2)⟩
          case measure => simp [intOf]; omega
      · obtain rfl : k = l.length := by omega
        rw [List.take_length] at hW
        have i1 : ¬ (l.length : Int) < (l.length : Int) := by omega
        have hhl := head_len l
        have HQ := Lib.hid (HP.out _ 5 (⟨#[93]⟩ : ByteArray) wr hW (by have := hl.out; rw [List.length_append]; omega))
        clear hW hhl
        go_wp2_with fail
        refine HQ.out.mono ?_
        rintro e w2 ⟨rfl, hW2, hB2⟩
        replace hW2 := Lib.hid hW2
        go_wp2_with fail
        go_end0
        exact ⟨rfl, by rw [← List.append_assoc]; exact hW2.out, hB.trans hB2⟩
end Go.Proofs.YtijdghplfhfpaaaDoor.H

/- Scripts: how they are shown: the plain law of tests and commands. -/
namespace Go.Proofs.YtijdghplfhfpaaaDoor.H
open Go.RowKit Go.Proofs.YtijdghplfhfpaaaDoorW.PrintWords Go.Proofs.YtijdghplfhfpaaaDoorW.PrintLast Go.Proofs.YtijdghplfhfpaaaDoor.U
set_option linter.unusedVariables false
set_option linter.unusedSimpArgs false
def testWords : List ByteArray := [⟨#[]⟩, ⟨#[116, 114, 117, 101]⟩, ⟨#[102, 97, 108, 115, 101]⟩, ⟨#[110, 111, 116]⟩, ⟨#[97, 108, 108, 111, 102]⟩, ⟨#[97, 110, 121, 111, 102]⟩, ⟨#[104, 101, 97, 100, 101, 114]⟩, ⟨#[97, 100, 100, 114, 101, 115, 115]⟩, ⟨#[101, 110, 118, 101, 108, 111, 112, 101]⟩, ⟨#[101, 120, 105, 115, 116, 115]⟩, ⟨#[115, 105, 122, 101]⟩]
def partWords : List ByteArray := [⟨#[]⟩, ⟨#[97, 108, 108]⟩, ⟨#[108, 111, 99, 97, 108, 112, 97, 114, 116]⟩, ⟨#[100, 111, 109, 97, 105, 110]⟩]
def matchWords : List ByteArray := [⟨#[]⟩, ⟨#[105, 115]⟩, ⟨#[99, 111, 110, 116, 97, 105, 110, 115]⟩, ⟨#[109, 97, 116, 99, 104, 101, 115]⟩]
def commandWords : List ByteArray := [⟨#[]⟩, ⟨#[114, 101, 113, 117, 105, 114, 101]⟩, ⟨#[105, 102]⟩, ⟨#[107, 101, 101, 112]⟩, ⟨#[100, 105, 115, 99, 97, 114, 100]⟩, ⟨#[102, 105, 108, 101, 105, 110, 116, 111]⟩, ⟨#[114, 101, 100, 105, 114, 101, 99, 116]⟩, ⟨#[114, 101, 106, 101, 99, 116]⟩, ⟨#[115, 101, 116, 102, 108, 97, 103]⟩, ⟨#[97, 100, 100, 102, 108, 97, 103]⟩, ⟨#[115, 116, 111, 112]⟩]
def wordAt (l : List ByteArray) (k : Int) : ByteArray := l.getD k.toNat ⟨#[]⟩
def restT {α : Type} (f : α → List AToken) : List α → List AToken
  | [] => []
  | x :: l => tk 5 (⟨#[44]⟩ : ByteArray) :: (f x ++ restT f l)
def headT {α : Type} (f : α → List AToken) : List α → List AToken
  | [] => []
  | x :: l => tk 5 (⟨#[40]⟩ : ByteArray) :: (f x ++ restT f l)
def shwT {α : Type} (f : α → List AToken) (t : TestF α) : List AToken :=
  tk 1 (wordAt testWords t.kind) ::
    (if t.kind = 3 then t.tests.flatMap f
     else if 4 ≤ t.kind ∧ t.kind ≤ 5 then headT f t.tests ++ [tk 5 (⟨#[41]⟩ : ByteArray)]
     else if t.kind = 6 then tk 2 (wordAt matchWords t.mt) :: (strsV t.names ++ strsV t.keys)
     else if 7 ≤ t.kind ∧ t.kind ≤ 8 then tk 2 (wordAt partWords t.part) :: tk 2 (wordAt matchWords t.mt) :: (strsV t.names ++ strsV t.keys)
     else if t.kind = 9 then strsV t.names
     else if t.kind = 10 then [tk 2 (if t.over = true then (⟨#[111, 118, 101, 114]⟩ : ByteArray) else (⟨#[117, 110, 100, 101, 114]⟩ : ByteArray)), ⟨3, ⟨#[]⟩, t.limit⟩]
     else [])
def showT : (n : Nat) → TestN n → List AToken
  | 0 => fun x => nomatch x
  | n + 1 => shwT (showT n)
def shwC {τ α : Type} (g : TestF τ → List AToken) (kd : α → Int) (r : α → List AToken) (f : α → List AToken) (c : CmdF (TestF τ) α) : List AToken :=
  if c.kind = 2 then
    g c.test ++ (tk 5 (⟨#[123]⟩ : ByteArray) :: (c.then_.flatMap f ++ tk 5 (⟨#[125]⟩ : ByteArray) ::
      (match elsifL kd c.else_ with
       | some x => tk 1 (⟨#[101, 108, 115, 105, 102]⟩ : ByteArray) :: r x
       | none => if 0 < c.else_.length then tk 1 (⟨#[101, 108, 115, 101]⟩ : ByteArray) :: tk 5 (⟨#[123]⟩ : ByteArray) :: (c.else_.flatMap f ++ [tk 5 (⟨#[125]⟩ : ByteArray)]) else [])))
  else (if 0 < c.texts.length then strsV c.texts else []) ++ [tk 5 (⟨#[59]⟩ : ByteArray)]
/-- What stands behind a command's word. -/
def restC : (n : Nat) → CmdN n → List AToken
  | 0 => fun x => nomatch x
  | n + 1 => shwC (showT (n + 1)) (kindC n) (restC n) (fun x => tk 1 (wordAt commandWords (kindC n x)) :: restC n x)
def showC (n : Nat) (x : CmdN n) : List AToken := tk 1 (wordAt commandWords (kindC n x)) :: restC n x
theorem rest_snoc {α : Type} (f : α → List AToken) : ∀ (l : List α) (x : α), restT f (l ++ [x]) = restT f l ++ tk 5 (⟨#[44]⟩ : ByteArray) :: f x
  | [], x => by simp [restT]
  | y :: l, x => by rw [List.cons_append, restT, restT, rest_snoc f l x]; simp
theorem headT_first {α : Type} (f : α → List AToken) (x : α) : headT f ([] ++ [x]) = ([] ++ [tk 5 (⟨#[40]⟩ : ByteArray)]) ++ f x := by simp [headT, restT]
theorem headT_snoc {α : Type} (f : α → List AToken) {l : List α} (h : 0 < l.length) (x : α) : headT f (l ++ [x]) = (headT f l ++ [tk 5 (⟨#[44]⟩ : ByteArray)]) ++ f x := by
  cases l with
  | nil => simp at h
  | cons y l => rw [List.cons_append, headT, headT, rest_snoc]; simp
theorem headT_len {α : Type} (f : α → List AToken) (wt : α → Nat) (hf : ∀ x, (f x).length + 1 ≤ 8 * wt x) : ∀ l : List α, (headT f l).length ≤ 8 * (l.map wt).sum
  | [] => by simp [headT]
  | x :: l => by
    have hr : ∀ l : List α, (restT f l).length ≤ 8 * (l.map wt).sum := by
      intro l
      induction l with
      | nil => simp [restT]
      | cons y l ih => have := hf y; simp only [restT, List.length_cons, List.length_append, List.map_cons, List.sum_cons]; omega
    have := hr l
    have := hf x
    simp only [headT, List.length_cons, List.length_append, List.map_cons, List.sum_cons]; omega
theorem flat_len {α : Type} (f : α → List AToken) (wt : α → Nat) (hf : ∀ x, (f x).length + 1 ≤ 8 * wt x) : ∀ l : List α, (l.flatMap f).length ≤ 8 * (l.map wt).sum
  | [] => by simp
  | x :: l => by
    have := flat_len f wt hf l
    have := hf x
    simp only [List.flatMap_cons, List.length_append, List.map_cons, List.sum_cons]; omega
theorem strs_len2 (l : List ByteArray) : (strsV l).length ≤ 2 * l.length + 2 := by
  cases l with
  | nil => simp [strsV]
  | cons x l => have := strs_len (l := x :: l) (by simp); omega
theorem showT_len : ∀ (n : Nat) (t : TestN n), (showT n t).length + 1 ≤ 8 * wtT n t
  | 0, t => nomatch t
  | n + 1, t => by
    obtain ⟨kd, mt, pt, nm, ks, ov, lm, ts⟩ := t
    show (shwT (showT n) ⟨kd, mt, pt, nm, ks, ov, lm, ts⟩).length + 1 ≤ 8 * (1 + nm.length + ks.length + (ts.map (wtT n)).sum)
    have h1 := headT_len (showT n) (wtT n) (showT_len n) ts
    have h2 := flat_len (showT n) (wtT n) (showT_len n) ts
    have h3 := strs_len2 nm
    have h4 := strs_len2 ks
    unfold shwT
    simp only
    split
    · simp only [List.length_cons]; omega
    · split
      · simp only [List.length_cons, List.length_append, List.length_nil]; omega
      · split
        · simp only [List.length_cons, List.length_append]; omega
        · split
          · simp only [List.length_cons, List.length_append]; omega
          · split
            · simp only [List.length_cons]; omega
            · split
              · simp only [List.length_cons, List.length_nil]; omega
              · simp only [List.length_cons, List.length_nil]; omega
theorem wtT_pos' : ∀ n (t : TestN n), 1 ≤ wtT n t
  | 0, t => nomatch t
  | n + 1, t => by show 1 ≤ 1 + _ + _ + _; omega
theorem elsif_mem {α : Type} {kd : α → Int} {l : List α} {x : α} (h : elsifL kd l = some x) : l = [x] := by
  unfold elsifL at h
  split at h
  · split at h
    · cases h; rfl
    · cases h
  · cases h
theorem showC_len : ∀ (n : Nat) (c : CmdN n), (showC n c).length + 1 ≤ 8 * wtC n c
  | 0, c => nomatch c
  | n + 1, c => by
    obtain ⟨kd, tx, tst, th, el⟩ := c
    show (tk 1 (wordAt commandWords kd) :: shwC (showT (n + 1)) (kindC n) (restC n) (showC n) ⟨kd, tx, tst, th, el⟩).length + 1 ≤ 8 * (1 + tx.length + wtT (n + 1) tst + (th.map (wtC n)).sum + (el.map (wtC n)).sum)
    have h1 := flat_len (showC n) (wtC n) (showC_len n) th
    have h2 := flat_len (showC n) (wtC n) (showC_len n) el
    have h3 := strs_len2 tx
    have h4 := showT_len (n + 1) tst
    have h5 := wtT_pos' (n + 1) tst
    unfold shwC
    simp only
    split
    · split
      · rename_i x hx
        have := elsif_mem hx
        subst this
        have h6 := showC_len n x
        simp only [showC, List.length_cons] at h6
        simp only [List.map_cons, List.map_nil, List.sum_cons, List.sum_nil, List.length_cons, List.length_append] at h1 h2 h4 ⊢
        omega
      · split
        · simp only [List.length_cons, List.length_append, List.length_nil] at h1 h2 h4 ⊢; omega
        · simp only [List.length_cons, List.length_append, List.length_nil] at h1 h2 h4 ⊢; omega
    · split
      · simp only [List.length_cons, List.length_append, List.length_nil]; omega
      · simp only [List.length_cons, List.length_append, List.length_nil]; omega
end Go.Proofs.YtijdghplfhfpaaaDoor.H

/- Scripts: the reference's words and tokens. -/
namespace Go.Proofs.YtijdghplfhfpaaaDoor.H
open Go.RowKit Go.Proofs.YtijdghplfhfpaaaDoorW.PrintWords Go.Proofs.YtijdghplfhfpaaaDoorW.PrintLast Go.Proofs.YtijdghplfhfpaaaDoor.U
set_option linter.unusedVariables false
set_option linter.unusedSimpArgs false
set_option maxHeartbeats 1000000 in
set_option maxRecDepth 100000 in
theorem tok_calls (k : Int) (s : ByteArray) (w : World) :
    Calls Tryd.prog 116 #[.int .i64 k, .string s] w fun e w' => e = .returned (.agg #[.int .i64 k, .string s, .int .i64 0]) ∧ Below w.heap.size w w' := by
  have hZ : Blk (w.alloc (.cells #[.int .i64 0, .string ⟨#[]⟩, .int .i64 0] 119)) w.heap.size [.int .i64 0, .string ⟨#[]⟩, .int .i64 0] := Blk.made w _ _
  have z0 := hZ.at 0 _ rfl
  have z1 := hZ.at 1 _ rfl
  have z2 := hZ.at 2 _ rfl
  have f0 := hZ.free 0 _ rfl
  have f1 := hZ.free 1 _ rfl
  have f2 := hZ.free 2 _ rfl
  have fl := hZ.lt
  go_enter Tryd.func116, Tryd.ntmps116
  go_wp2_with fail
  refine bodyPost_ret (v := .agg #[.int .i64 k, .string s, .int .i64 0]) (by simp [results, Tryd.results116, go_sem, *]) rfl ⟨rfl, (by repeat (first | exact Below.refl _ _ | apply below_alloc | apply pw_below_drewN | apply below_drew1 | (refine Below.setCell ?_ (by first | (simp; done) | (simp; omega) | omega) _) ))⟩
set_option maxHeartbeats 1000000 in
set_option maxRecDepth 100000 in
theorem testWord_calls (kd : Int) (w : World) (h0 : 0 ≤ kd) (h1 : kd < 11) :
    Calls Tryd.prog 198 #[.int .i64 kd] w fun e w' => e = .returned (.string (wordAt testWords kd)) ∧ Below w.heap.size w w' := by
  obtain ⟨k, hkd⟩ : ∃ k : Nat, kd = (k : Int) := ⟨kd.toNat, by omega⟩
  have hO := Blk.made w #[.string ⟨#[]⟩, .string ⟨#[116, 114, 117, 101]⟩, .string ⟨#[102, 97, 108, 115, 101]⟩, .string ⟨#[110, 111, 116]⟩, .string ⟨#[97, 108, 108, 111, 102]⟩, .string ⟨#[97, 110, 121, 111, 102]⟩, .string ⟨#[104, 101, 97, 100, 101, 114]⟩, .string ⟨#[97, 100, 100, 114, 101, 115, 115]⟩, .string ⟨#[101, 110, 118, 101, 108, 111, 112, 101]⟩, .string ⟨#[101, 120, 105, 115, 116, 115]⟩, .string ⟨#[115, 105, 122, 101]⟩] 9
  have hkn : kd.toNat = k := by omega
  have hwd := hO.at k (.string (wordAt testWords kd)) (by
    have hk : k < 11 := by omega
    rw [hkd, wordAt, Int.toNat_natCast]
    clear hkd hkn hO h0 h1
    match k, hk with
    | 0, _ => rfl
    | 1, _ => rfl
    | 2, _ => rfl
    | 3, _ => rfl
    | 4, _ => rfl
    | 5, _ => rfl
    | 6, _ => rfl
    | 7, _ => rfl
    | 8, _ => rfl
    | 9, _ => rfl
    | 10, _ => rfl)
  generalize wordAt testWords kd = word at *
  clear hkd
  go_enter Tryd.func198, Tryd.ntmps198
  go_wp2_with fail
  go_ret
  exact ⟨rfl, (by repeat (first | exact Below.refl _ _ | apply below_alloc | apply pw_below_drewN | apply below_drew1 | (refine Below.setCell ?_ (by first | (simp; done) | (simp; omega) | omega) _) ))⟩
set_option maxHeartbeats 1000000 in
set_option maxRecDepth 100000 in
theorem partWord_calls (kd : Int) (w : World) (h0 : 0 ≤ kd) (h1 : kd < 4) :
    Calls Tryd.prog 199 #[.int .i64 kd] w fun e w' => e = .returned (.string (wordAt partWords kd)) ∧ Below w.heap.size w w' := by
  obtain ⟨k, hkd⟩ : ∃ k : Nat, kd = (k : Int) := ⟨kd.toNat, by omega⟩
  have hO := Blk.made w #[.string ⟨#[]⟩, .string ⟨#[97, 108, 108]⟩, .string ⟨#[108, 111, 99, 97, 108, 112, 97, 114, 116]⟩, .string ⟨#[100, 111, 109, 97, 105, 110]⟩] 9
  have hkn : kd.toNat = k := by omega
  have hwd := hO.at k (.string (wordAt partWords kd)) (by
    have hk : k < 4 := by omega
    rw [hkd, wordAt, Int.toNat_natCast]
    clear hkd hkn hO h0 h1
    match k, hk with
    | 0, _ => rfl
    | 1, _ => rfl
    | 2, _ => rfl
    | 3, _ => rfl)
  generalize wordAt partWords kd = word at *
  clear hkd
  go_enter Tryd.func199, Tryd.ntmps199
  go_wp2_with fail
  go_ret
  exact ⟨rfl, (by repeat (first | exact Below.refl _ _ | apply below_alloc | apply pw_below_drewN | apply below_drew1 | (refine Below.setCell ?_ (by first | (simp; done) | (simp; omega) | omega) _) ))⟩
set_option maxHeartbeats 1000000 in
set_option maxRecDepth 100000 in
theorem matchWord_calls (kd : Int) (w : World) (h0 : 0 ≤ kd) (h1 : kd < 4) :
    Calls Tryd.prog 200 #[.int .i64 kd] w fun e w' => e = .returned (.string (wordAt matchWords kd)) ∧ Below w.heap.size w w' := by
  obtain ⟨k, hkd⟩ : ∃ k : Nat, kd = (k : Int) := ⟨kd.toNat, by omega⟩
  have hO := Blk.made w #[.string ⟨#[]⟩, .string ⟨#[105, 115]⟩, .string ⟨#[99, 111, 110, 116, 97, 105, 110, 115]⟩, .string ⟨#[109, 97, 116, 99, 104, 101, 115]⟩] 9
  have hkn : kd.toNat = k := by omega
  have hwd := hO.at k (.string (wordAt matchWords kd)) (by
    have hk : k < 4 := by omega
    rw [hkd, wordAt, Int.toNat_natCast]
    clear hkd hkn hO h0 h1
    match k, hk with
    | 0, _ => rfl
    | 1, _ => rfl
    | 2, _ => rfl
    | 3, _ => rfl)
  generalize wordAt matchWords kd = word at *
  clear hkd
  go_enter Tryd.func200, Tryd.ntmps200
  go_wp2_with fail
  go_ret
  exact ⟨rfl, (by repeat (first | exact Below.refl _ _ | apply below_alloc | apply pw_below_drewN | apply below_drew1 | (refine Below.setCell ?_ (by first | (simp; done) | (simp; omega) | omega) _) ))⟩
set_option maxHeartbeats 1000000 in
set_option maxRecDepth 100000 in
theorem commandWord_calls (kd : Int) (w : World) (h0 : 0 ≤ kd) (h1 : kd < 11) :
    Calls Tryd.prog 117 #[.int .i64 kd] w fun e w' => e = .returned (.string (wordAt commandWords kd)) ∧ Below w.heap.size w w' := by
  obtain ⟨k, hkd⟩ : ∃ k : Nat, kd = (k : Int) := ⟨kd.toNat, by omega⟩
  have hO := Blk.made w #[.string ⟨#[]⟩, .string ⟨#[114, 101, 113, 117, 105, 114, 101]⟩, .string ⟨#[105, 102]⟩, .string ⟨#[107, 101, 101, 112]⟩, .string ⟨#[100, 105, 115, 99, 97, 114, 100]⟩, .string ⟨#[102, 105, 108, 101, 105, 110, 116, 111]⟩, .string ⟨#[114, 101, 100, 105, 114, 101, 99, 116]⟩, .string ⟨#[114, 101, 106, 101, 99, 116]⟩, .string ⟨#[115, 101, 116, 102, 108, 97, 103]⟩, .string ⟨#[97, 100, 100, 102, 108, 97, 103]⟩, .string ⟨#[115, 116, 111, 112]⟩] 9
  have hkn : kd.toNat = k := by omega
  have hwd := hO.at k (.string (wordAt commandWords kd)) (by
    have hk : k < 11 := by omega
    rw [hkd, wordAt, Int.toNat_natCast]
    clear hkd hkn hO h0 h1
    match k, hk with
    | 0, _ => rfl
    | 1, _ => rfl
    | 2, _ => rfl
    | 3, _ => rfl
    | 4, _ => rfl
    | 5, _ => rfl
    | 6, _ => rfl
    | 7, _ => rfl
    | 8, _ => rfl
    | 9, _ => rfl
    | 10, _ => rfl)
  generalize wordAt commandWords kd = word at *
  clear hkd
  go_enter Tryd.func117, Tryd.ntmps117
  go_wp2_with fail
  go_ret
  exact ⟨rfl, (by repeat (first | exact Below.refl _ _ | apply below_alloc | apply pw_below_drewN | apply below_drew1 | (refine Below.setCell ?_ (by first | (simp; done) | (simp; omega) | omega) _) ))⟩
end Go.Proofs.YtijdghplfhfpaaaDoor.H
