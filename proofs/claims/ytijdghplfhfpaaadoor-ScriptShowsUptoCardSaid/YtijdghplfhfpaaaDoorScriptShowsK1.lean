/- The claim ScriptShowsUptoCardSaid, part 1 of 8. -/
import Derived.Test.YtijdghplfhfpaaaDoorWWords
import Derived.Test.YtijdghplfhfpaaaDoorWLast
import Derived.Test.YtijdghplfhfpaaaDoorWEqStruct
import Derived.Deep.RegionHeld3
import Derived.Deep.DeepFit
import Derived.StillTailTactics
import Derived.Outline
import Derived.WalkSpells
import Derived.Lib.Hide
import Derived.Test.YtijdghplfhfpaaaDoorRows
import Derived.ChangeArms
import Derived.Deep.Slices
import Derived.SizedLaws
import Derived.ProofKit
import Derived.ChangeOld
import Derived.Lib.SmallJoins
import Derived.Lib.LaidTab
import Derived.LaidMore
import Derived.Lay
import Derived.OpenShut
import Derived.MakeChecks
import Derived.Deep.DeepHandedRow
import Derived.Stop.Joined
import Derived.Test.YtijdghplfhfpaaaDoorProg
import Derived.Lib.HexFns
import Derived.Lib.BufferOwn
import Derived.Lib.BufferWrite
import Derived.Defers
import Derived.Lib.SplitLaws
import Derived.Lib.IndexBytes
import Derived.Test.YtijdghplfhfpaaaDoorShelf
import Derived.Deep.QuietTactic
import Derived.BigQuiet
import Derived.WalkLawsBesides
/- Small laws over the print's words: rows that are copied and appended to, stores, facts behind a call. -/
namespace Go.Proofs.YtijdghplfhfpaaaDoor.U
open Go.RowKit Go.Proofs.YtijdghplfhfpaaaDoorW.PrintWords
set_option linter.unusedVariables false

theorem bytes_iff {a b : ByteArray} : a.data.toList = b.data.toList ↔ a = b :=
  ⟨fun h => by obtain ⟨⟨x⟩⟩ := a; obtain ⟨⟨y⟩⟩ := b; simp at h; rw [h], fun h => by rw [h]⟩
/-- Elements without rows of their own: what reads so may stand so. -/
def Flat {α : Type} (d : Kd α) : Prop := ∀ W x cs, d.K W x cs → ∀ W' base, d.M W' base (fun _ => False) x cs
theorem flat_scalar {α : Type} {enc : α → Value} {h1 : ∀ x, (enc x).oneCell' = true} : Flat (Kd.scalar enc h1) := fun _ _ _ h _ _ => h
/-- A kind whose cells are told outright. -/
def flatKd {α : Type} (n : Nat) (enc : α → List Value) (hl : ∀ x, (enc x).length = n) (h1 : ∀ x, ∀ u ∈ enc x, u.oneCell' = true) : Kd α where
  sz := n
  E := []
  K := fun _ x cs => cs = enc x
  M := fun _ _ _ x cs => cs = enc x
  K_len := fun h => by rw [h]; exact hl _
  K_one := fun h u hu => h1 _ u (h ▸ hu)
  K_below := fun _ h => h
  K_of_M := fun h => h
  M_mono := fun _ h => h
  M_bound := fun h => h
  M_move := fun _ h => h
  M_lower := fun _ h => h
theorem flat_kd {α : Type} {n : Nat} {enc : α → List Value} {hl : ∀ x, (enc x).length = n} {h1 : ∀ x, ∀ u ∈ enc x, u.oneCell' = true} : Flat (flatKd n enc hl h1) := fun _ _ _ h _ _ => h

/-- A slice type of a program: t its number, e its element's, z the zero value. -/
structure RowT (P : Program) {α : Type} (d : Kd α) (t e bytes : Nat) (z : Value) : Prop where
  ht : P.underlying t = some (.slice e)
  hinfo : (P.info? e).map (fun i => (i.zero, i.size, i.bytes)) = some (some z, d.sz, bytes)
  hz : z.cells.size = d.sz
  hs0 : 0 < d.sz
  hb0 : 0 < bytes
  flat : Flat d

section
variable {P : Program} {ops : Array Oper} {rest : List Oper} {o : Oper} {a : Act} {Q : Exit → Act → World → Prop} {Kc : Act → World → Prop} {α : Type} {d : Kd α} {t e bytes : Nat} {z : Value}
theorem rows_step (T : RowT P d t e bytes z) (base : Nat) {W : World} (hw : Region.wanted o (yielded ops a.tmps) = true) (s x : Operand)
    (ho : o.op = .call { callee := .builtin .append, args := #[s, x], argTypes := #[t, t] })
    (v : Value) (xs ys : List α) (A : Option Addr) (c : Nat) (hs : a.eval s = v) (hx : a.eval x = .slice A ys.length c)
    (HO : d.R e W base (fun _ => True) v xs) (HR : d.C W A ys.length ys) (hbase : base ≤ W.heap.size) (hl : (xs.length + ys.length) * bytes ≤ 140737488355328)
    (h : ∀ v1 w1, d.R e w1 base (fun _ => True) v1 (xs ++ ys) → Below base W w1 → W.grownBy w1 v.ownBlock → Kc (a.put o.dst v1) w1) :
    if Region.wanted o (yielded ops a.tmps) = true then Oper.wp P o a W Kc Q else Kc (a.put o.dst undef) W :=
  Kd.R_append_rows_step d (Rr := d.K W) (w0 := W) base hw s x t e z bytes ho T.ht T.hinfo T.hz T.hs0 T.hb0 v xs ys A ys.length c (fun _ => True) (fun _ => False) hs hx HO HR
    (fun x cs hk => T.flat W x cs hk _ _) (fun _ h => h.elim) (fun _ _ => trivial) (Below.refl _ _) hbase hl (fun v1 w1 hR hb hg _ => h v1 w1 hR hb hg)
theorem rows_list (T : RowT P d t e bytes z) (base : Nat) {W : World} (hgd : o.guard = none) (s x : Operand)
    (ho : o.op = .call { callee := .builtin .append, args := #[s, x], argTypes := #[t, t] })
    (v : Value) (xs ys : List α) (A : Option Addr) (c : Nat) (hs : a.eval s = v) (hx : a.eval x = .slice A ys.length c)
    (HO : d.R e W base (fun _ => True) v xs) (HR : d.C W A ys.length ys) (hbase : base ≤ W.heap.size) (hl : (xs.length + ys.length) * bytes ≤ 140737488355328)
    (h : ∀ v1 w1, d.R e w1 base (fun _ => True) v1 (xs ++ ys) → Below base W w1 → W.grownBy w1 v.ownBlock → wpList P ops Q rest (a.put o.dst v1) w1) : wpList P ops Q (o :: rest) a W :=
  Kd.R_append_rows d (Rr := d.K W) (w0 := W) base hgd s x t e z bytes ho T.ht T.hinfo T.hz T.hs0 T.hb0 v xs ys A ys.length c (fun _ => True) (fun _ => False) hs hx HO HR
    (fun x cs hk => T.flat W x cs hk _ _) (fun _ h => h.elim) (fun _ _ => trivial) (Below.refl _ _) hbase hl (fun v1 w1 hR hb hg _ => h v1 w1 hR hb hg)
/-- append(v, x), x's cells cs in the literal's block -/
theorem snoc_list (T : RowT P d t e bytes z) (base : Nat) {W : World} (hgd : o.guard = none) (s x : Operand)
    (ho : o.op = .call { callee := .builtin .append, args := #[s, x], argTypes := #[t, t] })
    (v : Value) (xs : List α) (p : α) (cs : List Value) (hs : a.eval s = v) (hx : a.eval x = .slice (some ⟨W.heap.size, 0, none⟩) 1 1) (hp : d.K W p cs)
    (HO : d.R e W base (fun _ => True) v xs) (hbase : base ≤ W.heap.size) (hl : (xs.length + 1) * bytes ≤ 140737488355328)
    (h : ∀ v1 w1, d.R e w1 base (fun _ => True) v1 (xs ++ [p]) → Below base W w1 → W.grownBy w1 v.ownBlock → wpList P ops Q rest (a.put o.dst v1) w1) :
    wpList P ops Q (o :: rest) a (W.alloc (.cells cs.toArray e)) :=
  Kd.R_append d (w0 := W) base hgd s x t e z bytes ho T.ht T.hinfo T.hz T.hs0 T.hb0 v xs p cs (fun _ => True) (fun _ => False) hs hx (T.flat W p cs hp _ _) (fun _ h => h.elim) (fun _ _ => trivial) HO (Below.refl _ _) hbase hl
    (fun v1 w1 hR hb hg _ => h v1 w1 hR hb hg)
theorem clone_list (T : RowT P d t e bytes z) {W : World} (hgd : o.guard = none) (s x : Operand)
    (ho : o.op = .call { callee := .builtin .append, args := #[s, x], argTypes := #[t, t] })
    (ys : List α) (A : Option Addr) (c : Nat) (hs : a.eval s = .slice none 0 0) (hx : a.eval x = .slice A ys.length c)
    (HR : d.C W A ys.length ys) (hl : ys.length * bytes ≤ 140737488355328)
    (h : ∀ A1 c1 w1, d.R e w1 W.heap.size (fun _ => True) (.slice A1 ys.length c1) ys → Below W.heap.size W w1 → wpList P ops Q rest (a.put o.dst (.slice A1 ys.length c1)) w1) : wpList P ops Q (o :: rest) a W :=
  rows_list T W.heap.size hgd s x ho (.slice none 0 0) [] ys A c hs hx (Kd.R_nil _ _ _ _ _) HR (Nat.le_refl _) (by simpa using hl) (fun v1 w1 hR hb _ => by obtain ⟨A1, c1, rfl⟩ := Kd.R_slice hR; exact h A1 c1 w1 hR hb)
end
section
variable {α : Type} {d : Kd α} {e base : Nat} {w w1 : World} {v : Value} {xs : List α}
/-- A literal of one element. -/
theorem R_lit1 (d : Kd α) (hf : Flat d) (e : Nat) (W : World) (x : α) (cs : List Value) (hk : d.K W x cs) : d.R e (W.alloc (.cells cs.toArray e)) W.heap.size (fun _ => True) (.slice (some ⟨W.heap.size, 0, none⟩) 1 1) [x] := by
  have hl := d.K_len hk
  refine ⟨fun _ _ => trivial, cs, by simpa using World.ownsRow_lit (base := W.heap.size) (e := e) (size := d.sz) W cs.toArray 1 (Nat.le_refl _) (by simp [maxLen]) (by simp [hl]), by simp [hl], fun j p h => ?_⟩
  match j, h with
  | 0, h =>
    obtain rfl : x = p := by simpa using h
    rw [Nat.zero_mul, List.drop_zero, List.take_of_length_le (by omega)]
    exact d.M_mono (fun _ h => h.elim) (hf W x cs hk _ _)
  | j + 1, h => simp at h
/-- A store below all that the row leads to. -/
theorem R_elder (h : d.R e w base (fun _ => True) v xs) {p : Addr} (hp : p.block < base) (u : Value) : d.R e (w.setCell p u) base (fun _ => True) v xs :=
  Kd.R_mono (Kd.R_far (Kd.R_bound h) (fun k hk he => by have := hk.2.1; omega) u) (fun _ _ => trivial)
theorem C_none (d : Kd α) (w : World) : d.C w none 0 [] := ⟨rfl, by omega, fun h => absurd h (by omega)⟩
theorem C_of (h : d.R e w base (fun _ => True) v xs) : ∃ A c, v = .slice A xs.length c ∧ xs.length ≤ c ∧ d.C w A xs.length xs := Kd.R_reads h
/-- Element i of a row whose elements' cells are told outright. -/
theorem flat_at {n m : Nat} {enc : α → List Value} {hl : ∀ x, (enc x).length = n} {h1 : ∀ x, ∀ u ∈ enc x, u.oneCell' = true} {A : Option Addr} (h : (flatKd n enc hl h1).C w A m xs) (i : Nat) (hi : i < xs.length) :
    ∃ ad, A = some ad ∧ (∀ u, (enc xs[i])[0]? = some u → w.cell? (ad.add (i * n)) = some u) ∧ ∀ j u, 0 < j → (enc xs[i])[j]? = some u → w.cell? ⟨(ad.add (i * n)).block, (ad.add (i * n)).off + j, none⟩ = some u := by
  obtain ⟨ad, e, hc⟩ := h.2.2 (by have := h.1; omega)
  obtain ⟨c, hcl, hk, hcell⟩ := hc i xs[i] (List.getElem?_eq_getElem hi)
  have hk' : c = enc xs[i] := hk
  subst hk'
  refine ⟨ad, e, fun u hu => hcell 0 u hu, fun j u hj hu => ?_⟩
  rw [← add_field ad _ j hj]
  exact hcell j u hu
theorem string_at {A : Option Addr} {m : Nat} {xs : List ByteArray} (h : Kd.string.C w A m xs) (i : Nat) (hi : i < xs.length) : ∃ ad, A = some ad ∧ w.cell? (ad.add i) = some (.string xs[i]) := by
  obtain ⟨ad, e, hc⟩ := h.2.2 (by have := h.1; omega)
  obtain ⟨c, hcl, hk, hcell⟩ := hc i xs[i] (List.getElem?_eq_getElem hi)
  have hk' : c = [.string xs[i]] := hk
  subst hk'
  refine ⟨ad, e, ?_⟩
  have := hcell 0 _ rfl
  rwa [show i * Kd.string.sz + 0 = i from Nat.mul_one i] at this
end
end Go.Proofs.YtijdghplfhfpaaaDoor.U

/- What comes in as data is read, where what is read is of small bulk: from a reading of a type to the print's kinds, with the bulk's bounds. -/
namespace Go.Proofs.YtijdghplfhfpaaaDoor.UB
open Go.ChangeMaps (open_string)
open Go.RowKit Go.Proofs.YtijdghplfhfpaaaDoorW.PrintWords Go.ChangeShapes Go.WideShapes Go.Proofs.YtijdghplfhfpaaaDoor.U
/-- How many values and letters a reading may hold. -/
abbrev bulkTop : Nat := 1048576

section
variable {P : Program} {t e : TypeId} {α β : Type} {d : Kd α} {d2 : Kd β} {ok : α → Prop} {ok2 : β → Prop} {n : Nat}
theorem list_of {p : Nat → α → Prop} : ∀ (len : Nat), (∀ i, i < len → ∃ y, p i y) → ∃ l : List α, l.length = len ∧ ∀ i y, l[i]? = some y → p i y
  | 0, _ => ⟨[], rfl, fun i y h => by simp at h⟩
  | len + 1, h => by
    obtain ⟨l, hl, hp⟩ := list_of len (fun i hi => h i (Nat.lt_succ_of_lt hi))
    obtain ⟨y, hy⟩ := h len (Nat.lt_succ_self _)
    refine ⟨l ++ [y], by simp [hl], fun i z hz => ?_⟩
    rcases Nat.lt_or_ge i l.length with hi | hi
    · rw [List.getElem?_append_left hi] at hz
      exact hp i z hz
    · rw [List.getElem?_append_right hi] at hz
      have : i - l.length = 0 := by
        rcases Nat.eq_zero_or_pos (i - l.length) with h0 | h0
        · exact h0
        · rw [List.getElem?_eq_none (by simp; omega)] at hz; cases hz
      rw [this] at hz
      obtain rfl : y = z := by simpa using hz
      obtain rfl : i = len := by omega
      exact hy
theorem mem_bulk {H : Type} {l : List (DataW H)} {x : DataW H} (hx : x ∈ l) : Rows.uptoBulk x ≤ Rows.uptoBulkAll l := by
  induction l with
  | nil => cases hx
  | cons y l ih =>
    simp only [Rows.uptoBulkAll]
    rcases List.mem_cons.1 hx with rfl | hx
    · omega
    · have := ih hx; omega
theorem bulk_pos {H : Type} (d : DataW H) : 1 ≤ Rows.uptoBulk d := by
  cases d with
  | lit l => cases l <;> simp [Rows.uptoBulk]
  | nil => simp [Rows.uptoBulk]
  | ptr d => simp [Rows.uptoBulk]
  | slice elems spare => simp [Rows.uptoBulk]
  | agg parts => simp [Rows.uptoBulk]
  | iface t d => simp [Rows.uptoBulk]
  | map entries => simp [Rows.uptoBulk]
  | held h => simp [Rows.uptoBulk]
theorem cells_get {w : World} {base : Nat} {a : Addr} {m : Nat} {c : List Value} (h : w.cells? base a m = some c) : c.length = m ∧ ∀ i u, c[i]? = some u → w.cell? (a.add i) = some u := by
  unfold World.cells? at h
  split at h
  · have hl : c.length = m := by simpa using mapM_some_length h
    refine ⟨hl, fun i u hu => ?_⟩
    have hi : i < m := by
      rcases Nat.lt_or_ge i m with hi | hi
      · exact hi
      · rw [List.getElem?_eq_none (by omega)] at hu; cases hu
    have := mapM_some_get h i i (by simp [hi])
    rw [this, hu]
  · cases h
/-! ### arguments -/
variable {H : Type} {enc : TypeId × Value → H} {W : World} {base b0 : Nat} {spare : Nat → Bool} {held : Bool} {v : Value} {x : DataW H} {ps : List MemPlace} {r : Reach}
theorem bulk_arg {ds : List (DataW H)} (h : Rows.uptoSmall H ds = true) {j : Nat} {y : DataW H} (hd : ds[j]? = some y) : Rows.uptoBulk y ≤ bulkTop :=
  Nat.le_trans (mem_bulk (List.mem_of_getElem? hd)) (of_decide_eq_true h)
end
end Go.Proofs.YtijdghplfhfpaaaDoor.UB

/- Tables that are laid before the call: what their cells hold. -/
namespace Go.Proofs.YtijdghplfhfpaaaDoor.U
open Go Go.RowKit Go.Proofs.YtijdghplfhfpaaaDoorW.PrintWords
set_option linter.unusedVariables false
/-- A start that fits: the listed variables hold what is listed. -/
theorem witness_up {H : Type} {enc : TypeId × Value → H} {C : Checked} {f : FuncId} {fn : Func} {s : OpenSpec} {conds : List PathCond} {laid : List (String × DataW Unit)} (os : Os) (args : Array Value) (fuel : Nat)
    (hsh : ((World.laidAll C.prog os laid).forCall (fun _ _ => 0) ⟨#[], args, []⟩).Shaped C.prog)
    (hok : Input.okWideB C.prog ((World.laidAll C.prog os laid).forCall (fun _ _ => 0) ⟨#[], args, []⟩) f ⟨#[], args, []⟩ = true)
    (x : List (DataW H) × List (DataW H) × List MemPlace) (hx : DataW.whole enc C.prog ((World.laidAll C.prog os laid).forCall (fun _ _ => 0) ⟨#[], args, []⟩).memory fn.params.toList s.vars false args.toList fuel = some x)
    (hconds : conds.all (PathCond.test C.prog ⟨fn.params.toList, x.1, s.bare.plain.varTypes C.prog, x.2.1⟩) = true) (hkk : ∀ k, s.cond = some k → k H (x.1 ++ x.2.1) = true)
    (hsz : s.bare.sizedB enc C.prog fn false ((World.laidAll C.prog os laid).forCall (fun _ _ => 0) ⟨#[], args, []⟩).memory args fuel = true)
    (hl : laidMetH C.prog laid ((World.laidAll C.prog os laid).forCall (fun _ _ => 0) ⟨#[], args, []⟩).memory) :
    ∃ (w : World) (tape : Tape) (i : Input), w.os = os ∧ (w.forCall tape i).Shaped C.prog ∧ i.vars = [] ∧ Input.okWide C.prog (w.forCall tape i) .any w.heap.size f i ∧
      s.preRow enc C.prog fn conds false laid (w.forCall tape i).memory i.args ∧ ({ } : Assume).holds C.prog (lone (Frame.enter C.prog f i.args .normal) [] (w.forCall tape i)) :=
  ⟨World.laidAll C.prog os laid, fun _ _ => 0, ⟨#[], args, []⟩, World.laidAll_os _ _ _, hsh, (Input.okWide_of_okWideB (base := 0) hok).1, (Input.okWide_of_okWideB hok).2,
    OpenSpec.preRow_of_cond fuel hx hconds hkk hsz hl, by
      simp only [Assume.holds]
      exact ⟨by simp, by simp, fun _ => Modest.zero, by simp, by simp⟩⟩
/-- A laid array of texts. -/
theorem laid_texts {P : Program} {W : World} {name : String} {g t e n : Nat} {l : List ByteArray} {r : List (String × DataW Unit)} {ps : List MemPlace}
    (h : DataW.LaidVars P W ((name, .agg (l.map fun s => .lit (.string s.data.toList))) :: r) ps) (hg : P.globalNamed name = some g) (ht : (P.globals[g]?).map (·.type) = some t)
    (hu : P.underlying t = some (.array n e)) (he : P.underlying e = some .string) (hc : P.cellsOf e = 1) (hb : l.length ≤ 9223372036854775807) :
    Kd.C Kd.string W (some ⟨g, 0, none⟩) l.length l ∧ ∃ q, DataW.LaidVars P W r q := by
  obtain ⟨g', t', cs, fuel, p, q, hg', ht', hv, hd, hr, _⟩ := h
  obtain rfl := Option.some.inj (hg.symm.trans hg')
  obtain rfl := Option.some.inj (ht.symm.trans ht')
  refine ⟨?_, q, hr⟩
  obtain ⟨xs, m, _, ex, _, hl, hel⟩ := DataW.trod_array hu hd
  have e3 : (xs.map (·.1)) = l.map fun s => .lit (.string s.data.toList) := (DataW.agg.inj (Prod.mk.inj ex).1).symm
  have hln : l.length = n := by have := congrArg List.length e3; simpa [hl] using this.symm
  refine ⟨rfl, ?_, fun _ => ⟨_, rfl, fun j x hj => ?_⟩⟩
  · exact hb
  have hjl : j < l.length := by rcases Nat.lt_or_ge j l.length with h | h; exact h; rw [List.getElem?_eq_none h] at hj; cases hj
  have hE := hel j (by omega)
  rw [hc, Nat.mul_one, List.getElem?_eq_getElem (by omega)] at hE
  obtain ⟨s, e1, e2, _⟩ := DataW.trod_string he hE
  have e4 : (xs.map (·.1))[j]? = (l.map fun s => (DataW.lit (.string s.data.toList) : DataW Unit))[j]? := by rw [e3]
  rw [List.getElem?_map, List.getElem?_map, List.getElem?_eq_getElem (by omega : j < xs.length), hj, e2] at e4
  have hz : s = x := by
    simp only [Option.map_some, Option.some.injEq, DataW.lit.injEq, Lit.string.injEq] at e4
    exact bytes_iff.1 e4
  subst hz
  refine ⟨[.string s], rfl, rfl, fun i u hi => ?_⟩
  match i, hi with
  | 0, hi =>
    obtain rfl : Value.string s = u := by simpa using hi
    have hcell : cs.toList[j]? = some (.string s) := by
      have h0 : ((cs.toList.drop j).take 1)[0]? = some (.string s) := by rw [e1]; rfl
      simpa using h0
    have := World.var?_cell hg hv j
    rw [show j * Kd.string.sz + 0 = j from Nat.mul_one j]
    rw [show (⟨g, 0, none⟩ : Addr).add j = ⟨g, j, none⟩ from by rw [Go.WideShapes.add_plain, Nat.zero_add]]
    rw [this]
    simpa using hcell
  | i + 1, hi => simp at hi
end Go.Proofs.YtijdghplfhfpaaaDoor.U

/- Rows of the program's types, and what every walk calls. -/
namespace Go.Proofs.YtijdghplfhfpaaaDoor.H
open Go.RowKit Go.Proofs.YtijdghplfhfpaaaDoorW.PrintWords Go.Proofs.YtijdghplfhfpaaaDoorW.PrintLast Go.Proofs.YtijdghplfhfpaaaDoor.U
set_option linter.unusedVariables false
set_option linter.unusedSimpArgs false
theorem rowStr : RowT Tryd.prog Kd.string 53 9 16 (.string ⟨#[]⟩) :=
  ⟨Tryd.underlying53, by kernel_rfl, rfl, by decide, by decide, flat_scalar⟩
theorem in_calls (a b c : Int) (w : World) : Calls Tryd.prog 52 #[.int .i64 a, .int .i64 b, .int .i64 c] w fun e w' => e = .returned (.bool (decide (b ≤ a) && decide (a ≤ c))) ∧ w = w' := by
  by_cases h : b ≤ a
  all_goals
    go_enter Tryd.func52, Tryd.ntmps52
    go_wp2
    go_ret
    exact ⟨by first | (simp [h]; done) | (simp; omega), rfl⟩
theorem in_yes (a b c : Int) (w : World) (h1 : b ≤ a) (h2 : a ≤ c) : Calls Tryd.prog 52 #[.int .i64 a, .int .i64 b, .int .i64 c] w fun e w' => e = .returned (.bool true) ∧ w = w' :=
  (in_calls a b c w).mono fun e w' ⟨he, hw⟩ => ⟨by rw [he]; simp [h1, h2], hw⟩
theorem in_no (a b c : Int) (w : World) (h : ¬ (b ≤ a ∧ a ≤ c)) : Calls Tryd.prog 52 #[.int .i64 a, .int .i64 b, .int .i64 c] w fun e w' => e = .returned (.bool false) ∧ w = w' :=
  (in_calls a b c w).mono fun e w' ⟨he, hw⟩ => ⟨by rw [he]; simp; omega, hw⟩
end Go.Proofs.YtijdghplfhfpaaaDoor.H

/- The flat structs of package api: Lean structures, their cells, their kinds. -/
namespace Go.Proofs.YtijdghplfhfpaaaDoor.H
open Go.RowKit Go.Proofs.YtijdghplfhfpaaaDoorW.PrintWords Go.Proofs.YtijdghplfhfpaaaDoorW.PrintLast Go.Proofs.YtijdghplfhfpaaaDoor.U
set_option linter.unusedVariables false
set_option linter.unusedSimpArgs false
structure AField where
  name : ByteArray
  value : ByteArray
def AField.enc (x : AField) : List Value := [.string x.name, .string x.value]
structure AAddress where
  loc : ByteArray
  dom : ByteArray
def AAddress.enc (x : AAddress) : List Value := [.string x.loc, .string x.dom]
def kAAddress : Kd AAddress := flatKd 2 AAddress.enc (fun _ => rfl) (fun x u hu => by simp only [AAddress.enc, List.mem_cons, List.mem_nil_iff, or_false] at hu; rcases hu with rfl | rfl <;> rfl)
structure AToken where
  kind : Int
  text : ByteArray
  number : Int
def AToken.enc (x : AToken) : List Value := [.int .i64 x.kind, .string x.text, .int .i64 x.number]
def kAToken : Kd AToken := flatKd 3 AToken.enc (fun _ => rfl) (fun x u hu => by simp only [AToken.enc, List.mem_cons, List.mem_nil_iff, or_false] at hu; rcases hu with rfl | rfl | rfl <;> rfl)
structure ALetter where
  from_ : AAddress
  to_ : AAddress
  text : ByteArray
def ALetter.enc (x : ALetter) : List Value := [.string x.from_.loc, .string x.from_.dom, .string x.to_.loc, .string x.to_.dom, .string x.text]
structure AAction where
  kind : Int
  text : ByteArray
  flags : Int
def AAction.enc (x : AAction) : List Value := [.int .i64 x.kind, .string x.text, .int .i64 x.flags]
structure AMail where
  uid : Int
  flags : Int
  text : ByteArray
def AMail.enc (x : AMail) : List Value := [.int .i64 x.uid, .int .i64 x.flags, .string x.text]
structure AEntry where
  kind : Int
  box : ByteArray
  uid : Int
  flags : Int
  to_ : ByteArray
  text : ByteArray
def AEntry.enc (x : AEntry) : List Value := [.int .i64 x.kind, .string x.box, .int .i64 x.uid, .int .i64 x.flags, .string x.to_, .string x.text]
structure AUser where
  loc : ByteArray
  script : ByteArray
def AUser.enc (x : AUser) : List Value := [.string x.loc, .string x.script]
structure AAct where
  kind : Int
  conn : Int
  user : Int
  keep : Int
  data : ByteArray
  entry : AEntry
def AAct.enc (x : AAct) : List Value := [.int .i64 x.kind, .int .i64 x.conn, .int .i64 x.user, .int .i64 x.keep, .string x.data, .int .i64 x.entry.kind, .string x.entry.box, .int .i64 x.entry.uid, .int .i64 x.entry.flags, .string x.entry.to_, .string x.entry.text]
structure ABit where
  text : ByteArray
  run : Bool
  quoted : Bool
  apart : Bool
def ABit.enc (x : ABit) : List Value := [.string x.text, .bool x.run, .bool x.quoted, .bool x.apart]
end Go.Proofs.YtijdghplfhfpaaaDoor.H

/- A reader's block: a text and a place in it. -/
namespace Go.Proofs.YtijdghplfhfpaaaDoor.H
open Go.RowKit Go.Proofs.YtijdghplfhfpaaaDoorW.PrintWords Go.Proofs.YtijdghplfhfpaaaDoorW.PrintLast Go.Proofs.YtijdghplfhfpaaaDoor.U
set_option linter.unusedVariables false
set_option linter.unusedSimpArgs false
/-- Block b holds a text and a place in it. -/
structure Cur (w : World) (b : Nat) (s : ByteArray) (i : Nat) : Prop where
  c0 : w.cell? ⟨b, 0, none⟩ = some (.string s)
  c1 : w.cell? ⟨b, 1, none⟩ = some (.int .i64 i)
  f0 : w.frozen? ⟨b, 0, none⟩ = false
  f1 : w.frozen? ⟨b, 1, none⟩ = false
  lt : b < w.heap.size
theorem Cur.below {w w1 : World} {b B : Nat} {s : ByteArray} {i : Nat} (h : Cur w b s i) (hb : Below B w w1) (hB : b < B) : Cur w1 b s i :=
  ⟨(hb.cell (p := ⟨b, 0, none⟩) hB).trans h.c0, (hb.cell (p := ⟨b, 1, none⟩) hB).trans h.c1, (hb.frozen (p := ⟨b, 0, none⟩) hB).trans h.f0, (hb.frozen (p := ⟨b, 1, none⟩) hB).trans h.f1, Nat.lt_of_lt_of_le h.lt hb.size⟩
theorem Cur.drawN {w : World} {b : Nat} {s : ByteArray} {i : Nat} (h : Cur w b s i) (q : Nat) : Cur (w.drewN q) b s i := ⟨by simpa using h.c0, by simpa using h.c1, by simpa using h.f0, by simpa using h.f1, by simpa using h.lt⟩
theorem Cur.drew {w : World} {b : Nat} {s : ByteArray} {i : Nat} (h : Cur w b s i) : Cur w.drew b s i := ⟨by simpa using h.c0, by simpa using h.c1, by simpa using h.f0, by simpa using h.f1, by simpa using h.lt⟩
theorem Cur.set {w : World} {b : Nat} {s : ByteArray} {i : Nat} (h : Cur w b s i) (k : Nat) : Cur (w.setCell ⟨b, 1, none⟩ (.int .i64 k)) b s k := by
  refine ⟨?_, World.cell?_setCell_same _ _ _ h.c1, ?_, ?_, by simpa using h.lt⟩
  · rw [World.cell?_setCell_other _ _ _ _ (by simp)]; exact h.c0
  · simpa using h.f0
  · simpa using h.f1
/-- A block that is made so. -/
theorem Cur.made (w : World) (s : ByteArray) (i t : Nat) : Cur (w.alloc (.cells #[.string s, .int .i64 i] t)) w.heap.size s i := ⟨by simp, by simp, by simp, by simp, by simp⟩
/-- The place that the block holds. -/
def placeOf (w : World) (b : Nat) : Nat := match w.cell? ⟨b, 1, none⟩ with | some (.int _ m) => m.toNat | _ => 0
theorem Cur.place {w : World} {b : Nat} {s : ByteArray} {i : Nat} (h : Cur w b s i) : placeOf w b = i := by simp [placeOf, h.c1]
end Go.Proofs.YtijdghplfhfpaaaDoor.H

/- A block known whole: its cells, none frozen; what becomes of it. -/
namespace Go.Proofs.YtijdghplfhfpaaaDoor.H
open Go.RowKit Go.Proofs.YtijdghplfhfpaaaDoorW.PrintWords Go.Proofs.YtijdghplfhfpaaaDoorW.PrintLast Go.Proofs.YtijdghplfhfpaaaDoor.U
set_option linter.unusedVariables false
set_option linter.unusedSimpArgs false
/-- Block b holds these cells, and may be written. -/
def Blk (w : World) (b : Nat) (l : List Value) : Prop := b < w.heap.size ∧ ∀ i v, l[i]? = some v → w.cell? ⟨b, i, none⟩ = some v ∧ w.frozen? ⟨b, i, none⟩ = false
theorem Blk.lt {w : World} {b : Nat} {l : List Value} (h : Blk w b l) : b < w.heap.size := h.1
theorem Blk.at {w : World} {b : Nat} {l : List Value} (h : Blk w b l) (i : Nat) (v : Value) (hv : l[i]? = some v) : w.cell? ⟨b, i, none⟩ = some v := (h.2 i v hv).1
theorem Blk.free {w : World} {b : Nat} {l : List Value} (h : Blk w b l) (i : Nat) (v : Value) (hv : l[i]? = some v) : w.frozen? ⟨b, i, none⟩ = false := (h.2 i v hv).2
theorem Blk.made (w : World) (a : Array Value) (t : Nat) : Blk (w.alloc (.cells a t)) w.heap.size a.toList :=
  ⟨by simp, fun i v hv => ⟨by simpa using hv, by simp⟩⟩
theorem Blk.grown {w w1 : World} {row : Option Nat} {b : Nat} {l : List Value} (h : Blk w b l) (hg : w.grownBy w1 row) (hne : some b ≠ row) : Blk w1 b l :=
  ⟨Nat.lt_of_lt_of_le h.1 hg.size, fun i v hv => ⟨(hg.cell_far ⟨b, i, none⟩ h.1 hne).trans (h.at i v hv), (hg.frozen_far ⟨b, i, none⟩ h.1 hne).trans (h.free i v hv)⟩⟩
theorem Blk.below {w w1 : World} {b B : Nat} {l : List Value} (h : Blk w b l) (hb : Below B w w1) (hB : b < B) : Blk w1 b l :=
  ⟨Nat.lt_of_lt_of_le h.1 hb.size, fun i v hv => ⟨(hb.cell (p := ⟨b, i, none⟩) hB).trans (h.at i v hv), (hb.frozen (p := ⟨b, i, none⟩) hB).trans (h.free i v hv)⟩⟩
theorem Blk.other {w : World} {b c j : Nat} {l : List Value} (h : Blk w b l) (hne : c ≠ b) (u : Value) : Blk (w.setCell ⟨c, j, none⟩ u) b l :=
  ⟨by simpa using h.1, fun i v hv => ⟨by rw [World.cell?_setCell_other _ _ _ _ (by simp [hne.symm])]; exact h.at i v hv, by simpa using h.free i v hv⟩⟩
theorem Blk.set {w : World} {b : Nat} {l : List Value} (h : Blk w b l) (i : Nat) (u : Value) (hi : i < l.length) : Blk (w.setCell ⟨b, i, none⟩ u) b (l.set i u) := by
  refine ⟨by simpa using h.1, fun j v hv => ?_⟩
  have hj : j < l.length := by
    rcases Nat.lt_or_ge j l.length with hj | hj
    · exact hj
    · rw [List.getElem?_eq_none (by simpa using hj)] at hv; cases hv
  have old := h.2 j l[j] (List.getElem?_eq_getElem hj)
  refine ⟨?_, by simpa using old.2⟩
  by_cases e : i = j
  · subst e
    rw [List.getElem?_set_self hi] at hv
    obtain rfl := Option.some.inj hv
    exact World.cell?_setCell_same _ _ _ old.1
  · rw [List.getElem?_set_ne e] at hv
    rw [World.cell?_setCell_other _ _ _ _ (by first | (simp; done) | (simp; omega))]
    exact h.at j v hv
theorem Blk.drawN {w : World} {b : Nat} {l : List Value} (h : Blk w b l) (n : Nat) : Blk (w.drewN n) b l := ⟨by simpa using h.1, fun i v hv => ⟨by simpa using h.at i v hv, by simpa using h.free i v hv⟩⟩
theorem Blk.drew {w : World} {b : Nat} {l : List Value} (h : Blk w b l) : Blk w.drew b l := ⟨by simpa using h.1, fun i v hv => ⟨by simpa using h.at i v hv, by simpa using h.free i v hv⟩⟩
theorem Blk.alloc {w : World} {b : Nat} {l : List Value} (h : Blk w b l) (o : Obj) : Blk (w.alloc o) b l := h.below (Below.alloc (Below.refl _ _) (Nat.le_refl _) o) h.1
theorem Cur.alloc {w : World} {b i : Nat} {s : ByteArray} (h : Cur w b s i) (o : Obj) : Cur (w.alloc o) b s i := h.below (Below.alloc (Below.refl _ _) (Nat.le_refl _) o) h.lt
theorem Cur.other {w : World} {b i c j : Nat} {s : ByteArray} (h : Cur w b s i) (hne : c ≠ b) (u : Value) : Cur (w.setCell ⟨c, j, none⟩ u) b s i :=
  ⟨by rw [World.cell?_setCell_other _ _ _ _ (by simp [hne.symm])]; exact h.c0, by rw [World.cell?_setCell_other _ _ _ _ (by simp [hne.symm])]; exact h.c1, by simpa using h.f0, by simpa using h.f1, by simpa using h.lt⟩
theorem grown_more {w w1 w2 : World} {row : Option Nat} {B : Nat} (h : w.grownBy w1 row) (k : Below B w1 w2) (hB : w.heap.size ≤ B) : w.grownBy w2 row :=
  ⟨k.os.trans h.os, k.tape.trans h.tape, k.output.trans h.output, Nat.le_trans h.size k.size, fun i hi hn => (k.block i (Nat.lt_of_lt_of_le hi hB)).trans (h.block i hi hn)⟩
theorem lt_of_cell' {w : World} {a : Addr} {v : Value} (h : w.cell? a = some v) : a.block < w.heap.size := by
  rcases Nat.lt_or_ge a.block w.heap.size with h1 | h1
  · exact h1
  · simp [World.cell?, Array.getElem?_eq_none h1] at h
theorem cell_alloc' {w : World} {a : Addr} {v : Value} (h : w.cell? a = some v) (o : Obj) : (w.alloc o).cell? a = some v :=
  (Below.cell (p := a) (Below.alloc (Below.refl w.heap.size w) (Nat.le_refl _) o) (lt_of_cell' h)).trans h
theorem cell_other' {w : World} {a : Addr} {v : Value} {c j : Nat} (h : w.cell? a = some v) (hne : a.block ≠ c) (u : Value) : (w.setCell ⟨c, j, none⟩ u).cell? a = some v := by
  rw [World.cell?_setCell_other _ _ _ _ (by intro e; have e2 := congrArg Addr.block e; first | exact hne e2 | exact hne e2.symm)]; exact h
theorem Blk.made_at {w : World} (a : Array Value) (t n : Nat) (h : w.heap.size = n) : Blk (w.alloc (.cells a t)) n a.toList := by subst h; exact Blk.made w a t
theorem Cur.made_at {w : World} (s : ByteArray) (i t n : Nat) (h : w.heap.size = n) : Cur (w.alloc (.cells #[.string s, .int .i64 i] t)) n s i := by subst h; exact Cur.made w s i t
section
variable {P : Program} {ops : Array Oper} {o : Oper} {a : Act} {Q : Exit → Act → World → Prop} {Kc : Act → World → Prop} {α : Type} {d : Kd α} {t e bytes : Nat} {z : Value}
/-- append(v, x) in a region that draws, x's cells cs in the literal's block. -/
theorem snoc_step (T : RowT P d t e bytes z) (base : Nat) {W : World} (hw : Region.wanted o (yielded ops a.tmps) = true) (s x : Operand)
    (ho : o.op = .call { callee := .builtin .append, args := #[s, x], argTypes := #[t, t] })
    (v : Value) (xs : List α) (p : α) (cs : List Value) (hs : a.eval s = v) (hx : a.eval x = .slice (some ⟨W.heap.size, 0, none⟩) 1 1) (hp : d.K W p cs)
    (HO : d.R e W base (fun _ => True) v xs) (hbase : base ≤ W.heap.size) (hl : (xs.length + 1) * bytes ≤ 140737488355328)
    (h : ∀ v1 w1, d.R e w1 base (fun _ => True) v1 (xs ++ [p]) → Below base W w1 → W.grownBy w1 v.ownBlock → Kc (a.put o.dst v1) w1) :
    if Region.wanted o (yielded ops a.tmps) = true then Oper.wp P o a (W.alloc (.cells cs.toArray e)) Kc Q else Kc (a.put o.dst undef) (W.alloc (.cells cs.toArray e)) :=
  Kd.R_append_step d (w0 := W) base hw s x t e z bytes ho T.ht T.hinfo T.hz T.hs0 T.hb0 v xs p cs (fun _ => True) (fun _ => False) hs hx (T.flat W p cs hp _ _) (fun _ h => h.elim) (fun _ _ => trivial) HO (Below.refl _ _) hbase hl
    (fun v1 w1 hR hb hg _ => h v1 w1 hR hb hg)
/-- What a block below the row's base holds, the row's writing keeps. -/
theorem Blk.beside {w w1 : World} {b : Nat} {l : List Value} {base : Nat} {v : Value} {xs : List α} {ok : Nat → Prop} (h : Blk w b l) (hR : d.R e w base ok v xs) (hg : w.grownBy w1 v.ownBlock) (hb : b < base) : Blk w1 b l := by
  obtain ⟨inner, ho⟩ := Kd.R_own hR
  exact h.grown hg (fun he => by have := own_base ho b he.symm; omega)
end
end Go.Proofs.YtijdghplfhfpaaaDoor.H

/- Scripts: tests and commands as trees of a bounded depth; their kinds; what may be. No program in sight. -/
namespace Go.Proofs.YtijdghplfhfpaaaDoor.H
open Go.RowKit Go.Proofs.YtijdghplfhfpaaaDoorW.PrintWords Go.Proofs.YtijdghplfhfpaaaDoorW.PrintLast Go.Proofs.YtijdghplfhfpaaaDoor.U
set_option linter.unusedVariables false
set_option linter.unusedSimpArgs false
structure TestF (α : Type) where
  kind : Int
  mt : Int
  part : Int
  names : List ByteArray
  keys : List ByteArray
  over : Bool
  limit : Int
  tests : List α
structure CmdF (τ α : Type) where
  kind : Int
  texts : List ByteArray
  test : τ
  then_ : List α
  else_ : List α
/-- A test nested less than n deep. -/
def TestN : Nat → Type
  | 0 => Empty
  | n + 1 => TestF (TestN n)
/-- A command nested less than n deep. -/
def CmdN : Nat → Type
  | 0 => Empty
  | n + 1 => CmdF (TestF (TestN n)) (CmdN n)
def kTestF {α : Type} (d : Kd α) : Kd (TestF α) :=
  Kd.iso (Kd.pair (Kd.int .i64) (Kd.pair (Kd.int .i64) (Kd.pair (Kd.int .i64) (Kd.pair (Kd.slice 9 Kd.string) (Kd.pair (Kd.slice 9 Kd.string) (Kd.pair Kd.bool (Kd.pair (Kd.int .i64) (Kd.slice 107 d))))))))
    fun t => (t.kind, t.mt, t.part, t.names, t.keys, t.over, t.limit, t.tests)
def kCmdF {τ α : Type} (d : Kd τ) (e : Kd α) : Kd (CmdF τ α) :=
  Kd.iso (Kd.pair (Kd.int .i64) (Kd.pair (Kd.slice 9 Kd.string) (Kd.pair d (Kd.pair (Kd.slice 109 e) (Kd.slice 109 e)))))
    fun c => (c.kind, c.texts, c.test, c.then_, c.else_)
def kTest : (n : Nat) → Kd (TestN n)
  | 0 => Kd.bot 8 []
  | n + 1 => kTestF (kTest n)
def kCmd : (n : Nat) → Kd (CmdN n)
  | 0 => Kd.bot 12 []
  | n + 1 => kCmdF (kTestF (kTest n)) (kCmd n)
theorem kTest_sz : ∀ n, (kTest n).sz = 8
  | 0 => rfl
  | _ + 1 => rfl
theorem kCmd_sz : ∀ n, (kCmd n).sz = 12
  | 0 => rfl
  | _ + 1 => rfl
/-- How much a tree is. -/
def wtT : (n : Nat) → TestN n → Nat
  | 0 => fun x => nomatch x
  | n + 1 => fun (t : TestF (TestN n)) => 1 + t.names.length + t.keys.length + (t.tests.map (wtT n)).sum
def wtC : (n : Nat) → CmdN n → Nat
  | 0 => fun x => nomatch x
  | n + 1 => fun (c : CmdF (TestF (TestN n)) (CmdN n)) => 1 + c.texts.length + wtT (n + 1) c.test + (c.then_.map (wtC n)).sum + (c.else_.map (wtC n)).sum
/-- The first that is wrong. -/
def errs {α : Type} (f : α → Int) : List α → Int
  | [] => 0
  | x :: l => if f x = 0 then errs f l else f x
theorem errs_bad {α : Type} {f : α → Int} {l : List α} {k : Nat} (h : k < l.length) (h2 : ¬ f l[k] = 0) : errs f (l.drop k) = f l[k] := by
  rw [List.drop_eq_getElem_cons h, errs, if_neg h2]
theorem errs_good {α : Type} {f : α → Int} {l : List α} {k : Nat} (h : k < l.length) (h2 : f l[k] = 0) : errs f (l.drop k) = errs f (l.drop (k + 1)) := by
  rw [List.drop_eq_getElem_cons h, errs, if_pos h2]
theorem errs_end {α : Type} (f : α → Int) (l : List α) : errs f (l.drop l.length) = 0 := by rw [List.drop_length]; rfl
/-- The form of a test, its kind given. -/
def formT {α : Type} (t : TestF α) : Prop :=
  (if 6 ≤ t.kind ∧ t.kind ≤ 9 then 0 < t.names.length else t.names.length = 0) ∧
  (if 6 ≤ t.kind ∧ t.kind ≤ 8 then 0 < t.keys.length ∧ 1 ≤ t.mt ∧ t.mt ≤ 3 else t.keys.length = 0 ∧ t.mt = 0) ∧
  (if 7 ≤ t.kind ∧ t.kind ≤ 8 then 1 ≤ t.part ∧ t.part ≤ 3 else t.part = 0) ∧
  (if t.kind = 10 then 0 ≤ t.limit ∧ t.limit ≤ 2147483647 else t.over = false ∧ t.limit = 0) ∧
  (if t.kind = 3 then t.tests.length = 1 else if 4 ≤ t.kind ∧ t.kind ≤ 5 then 0 < t.tests.length else t.tests.length = 0)
instance {α : Type} (t : TestF α) : Decidable (formT t) := by unfold formT; infer_instance
def chkT {α : Type} (f : α → Int → Int) (t : TestF α) (dp : Int) : Int :=
  if t.kind < 1 ∨ 10 < t.kind then 2 else if 6 < dp then 1 else if formT t then errs (fun x => f x (dp + 1)) t.tests else 3
def checkT : (n : Nat) → TestN n → Int → Int
  | 0 => fun x => nomatch x
  | n + 1 => chkT (checkT n)
def bareT {α : Type} (t : TestF α) : Prop := t.kind = 0 ∧ t.mt = 0 ∧ t.part = 0 ∧ t.names.length = 0 ∧ t.keys.length = 0 ∧ t.tests.length = 0 ∧ t.over = false ∧ t.limit = 0
instance {α : Type} (t : TestF α) : Decidable (bareT t) := by unfold bareT; infer_instance
def formC {τ α : Type} (c : CmdF (TestF τ) α) : Prop :=
  bareT c.test ∧ c.then_.length = 0 ∧ c.else_.length = 0 ∧
  (if c.kind = 1 ∨ c.kind = 8 ∨ c.kind = 9 then 0 < c.texts.length else if 5 ≤ c.kind ∧ c.kind ≤ 7 then c.texts.length = 1 else c.texts.length = 0)
instance {τ α : Type} (c : CmdF (TestF τ) α) : Decidable (formC c) := by unfold formC; infer_instance
def kindC : (n : Nat) → CmdN n → Int
  | 0 => fun x => nomatch x
  | n + 1 => fun (c : CmdF (TestF (TestN n)) (CmdN n)) => c.kind
/-- Is what is else one If alone? -/
def elsifL {α : Type} (kd : α → Int) (l : List α) : Option α := match l with
  | [x] => if kd x = 2 then some x else none
  | _ => none
def chkC {τ α : Type} (g : TestF τ → Int → Int) (kd : α → Int) (f : α → Int → Int) (c : CmdF (TestF τ) α) (dp : Int) : Int :=
  if c.kind < 1 ∨ 10 < c.kind then 2 else if 6 < dp then 1
  else if c.kind = 2 then
    if 0 < c.texts.length then 3
    else if g c.test 1 = 0 then
      if errs (fun x => f x (dp + 1)) c.then_ = 0 then
        match elsifL kd c.else_ with
        | some x => f x dp
        | none => errs (fun x => f x (dp + 1)) c.else_
      else errs (fun x => f x (dp + 1)) c.then_
    else g c.test 1
  else if formC c then 0 else 3
def checkC : (n : Nat) → CmdN n → Int → Int
  | 0 => fun x => nomatch x
  | n + 1 => chkC (checkT (n + 1)) (kindC n) (checkC n)
/-- What a test's cells hold. -/
theorem test_K {α : Type} {d : Kd α} {w : World} {t : TestF α} {cs : List Value} (h : (kTestF d).K w t cs) :
    ∃ A1 c1 A2 c2 A3 c3, cs = [.int .i64 t.kind, .int .i64 t.mt, .int .i64 t.part, .slice A1 t.names.length c1, .slice A2 t.keys.length c2, .bool t.over, .int .i64 t.limit, .slice A3 t.tests.length c3] ∧
      (t.names.length ≤ c1 ∧ t.keys.length ≤ c2 ∧ t.tests.length ≤ c3) ∧ Kd.C Kd.string w A1 t.names.length t.names ∧ Kd.C Kd.string w A2 t.keys.length t.keys ∧ d.C w A3 t.tests.length t.tests := by
  obtain ⟨_, _, rfl, h1, ⟨_, _, rfl, h2, ⟨_, _, rfl, h3, ⟨_, _, rfl, ⟨A1, c1, rfl, l1, r1⟩, ⟨_, _, rfl, ⟨A2, c2, rfl, l2, r2⟩, ⟨_, _, rfl, h6, ⟨_, _, rfl, h7, ⟨A3, c3, rfl, l3, r3⟩⟩⟩⟩⟩⟩⟩⟩ := h
  cases h1; cases h2; cases h3; cases h6; cases h7
  exact ⟨A1, c1, A2, c2, A3, c3, rfl, ⟨l1, l2, l3⟩, r1, r2, r3⟩
theorem test_MI {α : Type} {d : Kd α} {w : World} {base : Nat} {ok : Nat → Prop} {t : TestF α} {v1 v2 v3 : Value} (h1 : Kd.R Kd.string 9 w base ok v1 t.names) (h2 : Kd.R Kd.string 9 w base ok v2 t.keys) (h3 : d.R 107 w base ok v3 t.tests) :
    (kTestF d).M w base ok t [.int .i64 t.kind, .int .i64 t.mt, .int .i64 t.part, v1, v2, .bool t.over, .int .i64 t.limit, v3] :=
  ⟨[_], _, rfl, rfl, [_], _, rfl, rfl, [_], _, rfl, rfl, [_], _, rfl, ⟨v1, rfl, h1⟩, [_], _, rfl, ⟨v2, rfl, h2⟩, [_], _, rfl, rfl, [_], [_], rfl, rfl, ⟨v3, rfl, h3⟩⟩
/-- What a command's cells hold. -/
theorem cmd_K {τ α : Type} {d : Kd τ} {e : Kd α} {w : World} {c : CmdF (TestF τ) α} {cs : List Value} (h : (kCmdF (kTestF d) e).K w c cs) :
    ∃ A1 c1 ts A2 c2 A3 c3, cs = .int .i64 c.kind :: .slice A1 c.texts.length c1 :: (ts ++ [.slice A2 c.then_.length c2, .slice A3 c.else_.length c3]) ∧
      (c.texts.length ≤ c1 ∧ c.then_.length ≤ c2 ∧ c.else_.length ≤ c3) ∧ Kd.C Kd.string w A1 c.texts.length c.texts ∧ (kTestF d).K w c.test ts ∧ e.C w A2 c.then_.length c.then_ ∧ e.C w A3 c.else_.length c.else_ := by
  obtain ⟨_, _, rfl, h1, ⟨_, _, rfl, ⟨A1, c1, rfl, l1, r1⟩, ⟨ts, _, rfl, h3, ⟨_, _, rfl, ⟨A2, c2, rfl, l2, r2⟩, ⟨A3, c3, rfl, l3, r3⟩⟩⟩⟩⟩ := h
  cases h1
  exact ⟨A1, c1, ts, A2, c2, A3, c3, rfl, ⟨l1, l2, l3⟩, r1, h3, r2, r3⟩
theorem cmd_MI {τ α : Type} {d : Kd τ} {e : Kd α} {w : World} {base : Nat} {ok : Nat → Prop} {c : CmdF (TestF τ) α} {v1 v2 v3 : Value} {ts : List Value} (h1 : Kd.R Kd.string 9 w base ok v1 c.texts) (ht : (kTestF d).M w base ok c.test ts) (h2 : e.R 109 w base ok v2 c.then_) (h3 : e.R 109 w base ok v3 c.else_) :
    (kCmdF (kTestF d) e).M w base ok c (.int .i64 c.kind :: v1 :: (ts ++ [v2, v3])) :=
  ⟨[_], _, rfl, rfl, [_], _, rfl, ⟨v1, rfl, h1⟩, ts, _, rfl, ht, [_], [_], rfl, ⟨v2, rfl, h2⟩, ⟨v3, rfl, h3⟩⟩
/-- An element of a row that is read. -/
theorem elem_at {α : Type} {d : Kd α} {w : World} {A : Option Addr} {n s : Nat} {xs : List α} (h : d.C w A n xs) (hs : d.sz = s) (k : Nat) (hk : k < xs.length) :
    ∃ ad cs, A = some ad ∧ d.K w xs[k] cs ∧ (∀ u, cs[0]? = some u → w.cell? (ad.add (k * s)) = some u) ∧ ∀ j u, 0 < j → cs[j]? = some u → w.cell? ⟨(ad.add (k * s)).block, (ad.add (k * s)).off + j, none⟩ = some u := by
  have hn : xs.length = n := h.1
  subst hs
  obtain ⟨ad, e, hc⟩ := h.2.2 (by omega)
  obtain ⟨cs, _, hK, hcell⟩ := hc k _ (List.getElem?_eq_getElem hk)
  refine ⟨ad, cs, e, hK, fun u hu => hcell 0 u hu, fun j u hj hu => ?_⟩
  rw [← add_field ad _ j hj]
  exact hcell j u hu
/-- A test that stands in a row. -/
theorem testN_K {n : Nat} {w : World} {x : TestN n} {cs : List Value} (h : (kTest n).K w x cs) :
    ∃ k mt pt A1 l1 c1 A2 l2 c2 ov lm A3 l3 c3, cs = [.int .i64 k, .int .i64 mt, .int .i64 pt, .slice A1 l1 c1, .slice A2 l2 c2, .bool ov, .int .i64 lm, .slice A3 l3 c3] := by
  cases n with
  | zero => exact nomatch x
  | succ n =>
    obtain ⟨A1, c1, A2, c2, A3, c3, rfl, _⟩ := test_K h
    exact ⟨_, _, _, _, _, _, _, _, _, _, _, _, _, _, rfl⟩
theorem cmdN_K {n : Nat} {w : World} {x : CmdN n} {cs : List Value} (h : (kCmd n).K w x cs) :
    ∃ A0 l0 c0 k mt pt A1 l1 c1 A2 l2 c2 ov lm A3 l3 c3 A4 l4 c4 A5 l5 c5, cs = [.int .i64 (kindC n x), .slice A0 l0 c0, .int .i64 k, .int .i64 mt, .int .i64 pt, .slice A1 l1 c1, .slice A2 l2 c2, .bool ov, .int .i64 lm, .slice A3 l3 c3, .slice A4 l4 c4, .slice A5 l5 c5] := by
  cases n with
  | zero => exact nomatch x
  | succ n =>
    obtain ⟨A1, c1, ts, A2, c2, A3, c3, rfl, _, _, ht, _⟩ := cmd_K h
    obtain ⟨A1', c1', A2', c2', A3', c3', rfl, _⟩ := test_K ht
    exact ⟨_, _, _, _, _, _, _, _, _, _, _, _, _, _, _, _, _, _, _, _, _, _, _, rfl⟩
end Go.Proofs.YtijdghplfhfpaaaDoor.H

/- Runs of bytes in a text: where they end. No program in sight. -/
namespace Go.Proofs.YtijdghplfhfpaaaDoor.H
set_option linter.unusedVariables false
end Go.Proofs.YtijdghplfhfpaaaDoor.H

/- Atoms with dots between: the scan and the pieces say the same. No program in sight. -/
namespace Go.Proofs.YtijdghplfhfpaaaDoor.H
end Go.Proofs.YtijdghplfhfpaaaDoor.H

/- Lists of addresses: the reader's way through a text and the reference's way over its bits say the same. No program in sight. -/
namespace Go.Proofs.YtijdghplfhfpaaaDoor.H
set_option linter.unusedVariables false
set_option linter.unusedSimpArgs false
section
variable (ok : ByteArray → ByteArray → Bool) (s : ByteArray)
end
section
variable {ok : ByteArray → ByteArray → Bool} {s : ByteArray}
end
end Go.Proofs.YtijdghplfhfpaaaDoor.H

/- who.Check and the reference's AddressFault: the walks. -/
namespace Go.Proofs.YtijdghplfhfpaaaDoor.H
open Go.RowKit Go.Proofs.YtijdghplfhfpaaaDoorW.PrintWords Go.Proofs.YtijdghplfhfpaaaDoorW.PrintLast Go.Proofs.YtijdghplfhfpaaaDoor.U
set_option linter.unusedVariables false
set_option linter.unusedSimpArgs false
end Go.Proofs.YtijdghplfhfpaaaDoor.H

/- Atoms with dots between: the walks of both sides. -/
namespace Go.Proofs.YtijdghplfhfpaaaDoor.H
open Go.RowKit Go.Proofs.YtijdghplfhfpaaaDoorW.PrintWords Go.Proofs.YtijdghplfhfpaaaDoorW.PrintLast Go.Proofs.YtijdghplfhfpaaaDoor.U
set_option linter.unusedVariables false
set_option linter.unusedSimpArgs false
end Go.Proofs.YtijdghplfhfpaaaDoor.H

/- who.Check, who.Part and the reference's AddressFault, PartOf: the walks. -/
namespace Go.Proofs.YtijdghplfhfpaaaDoor.H
open Go.RowKit Go.Proofs.YtijdghplfhfpaaaDoorW.PrintWords Go.Proofs.YtijdghplfhfpaaaDoorW.PrintLast Go.Proofs.YtijdghplfhfpaaaDoor.U
set_option linter.unusedVariables false
set_option linter.unusedSimpArgs false
end Go.Proofs.YtijdghplfhfpaaaDoor.H

/- Lists of addresses: the reader's small methods: the walks. -/
namespace Go.Proofs.YtijdghplfhfpaaaDoor.H
open Go.RowKit Go.Proofs.YtijdghplfhfpaaaDoorW.PrintWords Go.Proofs.YtijdghplfhfpaaaDoorW.PrintLast Go.Proofs.YtijdghplfhfpaaaDoor.U
set_option linter.unusedVariables false
set_option linter.unusedSimpArgs false
end Go.Proofs.YtijdghplfhfpaaaDoor.H

/- Lists of addresses: the reader's bare address: the walk. -/
namespace Go.Proofs.YtijdghplfhfpaaaDoor.H
open Go.RowKit Go.Proofs.YtijdghplfhfpaaaDoorW.PrintWords Go.Proofs.YtijdghplfhfpaaaDoorW.PrintLast Go.Proofs.YtijdghplfhfpaaaDoor.U
set_option linter.unusedVariables false
set_option linter.unusedSimpArgs false
end Go.Proofs.YtijdghplfhfpaaaDoor.H

/- An address in < and >: what the program asks of it and what the reference asks are the same. No program in sight. -/
namespace Go.Proofs.YtijdghplfhfpaaaDoor.H
set_option linter.unusedVariables false
set_option linter.unusedSimpArgs false
end Go.Proofs.YtijdghplfhfpaaaDoor.H
