/- Small laws over the print's words: rows that are copied and appended to, stores, facts behind a call. -/
import Derived.Test.YtijdghplfhfpaaaDoorWWords
import Derived.Test.YtijdghplfhfpaaaDoorWMore
import Derived.Test.YtijdghplfhfpaaaDoorWEqStruct
import Derived.Deep.RegionHeld3
import Derived.Deep.DeepFit
import Derived.StillTailTactics
import Derived.Outline
import Derived.WalkSpells
import Derived.Lib.Hide
namespace Go.Proofs.YtijdghplfhfpaaaDoor.U
open Go.RowKit Go.Proofs.YtijdghplfhfpaaaDoorW.PrintWords
set_option linter.unusedVariables false

theorem bcell {W w1 : World} (hb : Below W.heap.size W w1) : (∀ b o, b < W.heap.size → w1.cell? ⟨b, o, none⟩ = W.cell? ⟨b, o, none⟩) ∧ (∀ b o, b < W.heap.size → w1.frozen? ⟨b, o, none⟩ = W.frozen? ⟨b, o, none⟩) :=
  ⟨fun b o h => hb.cell (p := ⟨b, o, none⟩) h, fun b o h => hb.frozen (p := ⟨b, o, none⟩) h⟩

theorem bytes_iff {a b : ByteArray} : a.data.toList = b.data.toList ↔ a = b :=
  ⟨fun h => by obtain ⟨⟨x⟩⟩ := a; obtain ⟨⟨y⟩⟩ := b; simp at h; rw [h], fun h => by rw [h]⟩
/-- Elements without rows of their own: what reads so may stand so. -/
def Flat {α : Type} (d : Kd α) : Prop := ∀ W x cs, d.K W x cs → ∀ W' base, d.M W' base (fun _ => False) x cs
theorem flat_scalar {α : Type} {enc : α → Value} {h1 : ∀ x, (enc x).oneCell' = true} : Flat (Kd.scalar enc h1) := fun _ _ _ h _ _ => h
theorem flat_pair {α β : Type} {a : Kd α} {b : Kd β} (ha : Flat a) (hb : Flat b) : Flat (Kd.pair a b) := by
  rintro W x cs ⟨c0, c1, rfl, h0, h1⟩ W' base
  exact ⟨c0, c1, rfl, ha _ _ _ h0 _ _, hb _ _ _ h1 _ _⟩
theorem flat_iso {α β : Type} {d : Kd α} {f : β → α} (h : Flat d) : Flat (Kd.iso d f) := fun W x cs hk W' base => h W (f x) cs hk W' base

/-- A kind whose cells are told outright. -/
def flatKd {α : Type} (n : Nat) (enc : α → List Value) (hl : ∀ x, (enc x).length = n) (h1 : ∀ x, ∀ u ∈ enc x, u.oneCell' = true) : Kd α where
  sz := n
  E := []
  K := fun _ x cs => cs = enc x
  M := fun _ _ _ x cs => cs = enc x
  K_len := fun h => by rw [h]; exact hl _
  K_one := fun h u hu => h1 _ u (h ▸ hu)
  K_below := fun _ h => h
  K_of_M := fun h => h
  M_mono := fun _ h => h
  M_bound := fun h => h
  M_move := fun _ h => h
  M_lower := fun _ h => h
theorem flat_kd {α : Type} {n : Nat} {enc : α → List Value} {hl : ∀ x, (enc x).length = n} {h1 : ∀ x, ∀ u ∈ enc x, u.oneCell' = true} : Flat (flatKd n enc hl h1) := fun _ _ _ h _ _ => h

/-- A slice type of a program: t its number, e its element's, z the zero value. -/
structure RowT (P : Program) {α : Type} (d : Kd α) (t e bytes : Nat) (z : Value) : Prop where
  ht : P.underlying t = some (.slice e)
  hinfo : (P.info? e).map (fun i => (i.zero, i.size, i.bytes)) = some (some z, d.sz, bytes)
  hz : z.cells.size = d.sz
  hs0 : 0 < d.sz
  hb0 : 0 < bytes
  flat : Flat d

theorem below_of_grown {w w1 : World} (h : w.grownBy w1 none) : Below w.heap.size w w1 := ⟨h.os, h.tape, h.output, h.size, fun i hi => h.block i hi (by simp)⟩

section
variable {P : Program} {ops : Array Oper} {rest : List Oper} {o : Oper} {a : Act} {Q : Exit → Act → World → Prop} {Kc : Act → World → Prop} {α : Type} {d : Kd α} {t e bytes : Nat} {z : Value}
theorem rows_step (T : RowT P d t e bytes z) (base : Nat) {W : World} (hw : Region.wanted o (yielded ops a.tmps) = true) (s x : Operand)
    (ho : o.op = .call { callee := .builtin .append, args := #[s, x], argTypes := #[t, t] })
    (v : Value) (xs ys : List α) (A : Option Addr) (c : Nat) (hs : a.eval s = v) (hx : a.eval x = .slice A ys.length c)
    (HO : d.R e W base (fun _ => True) v xs) (HR : d.C W A ys.length ys) (hbase : base ≤ W.heap.size) (hl : (xs.length + ys.length) * bytes ≤ 140737488355328)
    (h : ∀ v1 w1, d.R e w1 base (fun _ => True) v1 (xs ++ ys) → Below base W w1 → W.grownBy w1 v.ownBlock → Kc (a.put o.dst v1) w1) :
    if Region.wanted o (yielded ops a.tmps) = true then Oper.wp P o a W Kc Q else Kc (a.put o.dst undef) W :=
  Kd.R_append_rows_step d (Rr := d.K W) (w0 := W) base hw s x t e z bytes ho T.ht T.hinfo T.hz T.hs0 T.hb0 v xs ys A ys.length c (fun _ => True) (fun _ => False) hs hx HO HR
    (fun x cs hk => T.flat W x cs hk _ _) (fun _ h => h.elim) (fun _ _ => trivial) (Below.refl _ _) hbase hl (fun v1 w1 hR hb hg _ => h v1 w1 hR hb hg)
theorem rows_list (T : RowT P d t e bytes z) (base : Nat) {W : World} (hgd : o.guard = none) (s x : Operand)
    (ho : o.op = .call { callee := .builtin .append, args := #[s, x], argTypes := #[t, t] })
    (v : Value) (xs ys : List α) (A : Option Addr) (c : Nat) (hs : a.eval s = v) (hx : a.eval x = .slice A ys.length c)
    (HO : d.R e W base (fun _ => True) v xs) (HR : d.C W A ys.length ys) (hbase : base ≤ W.heap.size) (hl : (xs.length + ys.length) * bytes ≤ 140737488355328)
    (h : ∀ v1 w1, d.R e w1 base (fun _ => True) v1 (xs ++ ys) → Below base W w1 → W.grownBy w1 v.ownBlock → wpList P ops Q rest (a.put o.dst v1) w1) : wpList P ops Q (o :: rest) a W :=
  Kd.R_append_rows d (Rr := d.K W) (w0 := W) base hgd s x t e z bytes ho T.ht T.hinfo T.hz T.hs0 T.hb0 v xs ys A ys.length c (fun _ => True) (fun _ => False) hs hx HO HR
    (fun x cs hk => T.flat W x cs hk _ _) (fun _ h => h.elim) (fun _ _ => trivial) (Below.refl _ _) hbase hl (fun v1 w1 hR hb hg _ => h v1 w1 hR hb hg)
/-- append(v, x), x's cells cs in the literal's block -/
theorem snoc_list (T : RowT P d t e bytes z) (base : Nat) {W : World} (hgd : o.guard = none) (s x : Operand)
    (ho : o.op = .call { callee := .builtin .append, args := #[s, x], argTypes := #[t, t] })
    (v : Value) (xs : List α) (p : α) (cs : List Value) (hs : a.eval s = v) (hx : a.eval x = .slice (some ⟨W.heap.size, 0, none⟩) 1 1) (hp : d.K W p cs)
    (HO : d.R e W base (fun _ => True) v xs) (hbase : base ≤ W.heap.size) (hl : (xs.length + 1) * bytes ≤ 140737488355328)
    (h : ∀ v1 w1, d.R e w1 base (fun _ => True) v1 (xs ++ [p]) → Below base W w1 → W.grownBy w1 v.ownBlock → wpList P ops Q rest (a.put o.dst v1) w1) :
    wpList P ops Q (o :: rest) a (W.alloc (.cells cs.toArray e)) :=
  Kd.R_append d (w0 := W) base hgd s x t e z bytes ho T.ht T.hinfo T.hz T.hs0 T.hb0 v xs p cs (fun _ => True) (fun _ => False) hs hx (T.flat W p cs hp _ _) (fun _ h => h.elim) (fun _ _ => trivial) HO (Below.refl _ _) hbase hl
    (fun v1 w1 hR hb hg _ => h v1 w1 hR hb hg)
/-- append(nil, ys...) -/
theorem clone_step (T : RowT P d t e bytes z) {W : World} (hw : Region.wanted o (yielded ops a.tmps) = true) (s x : Operand)
    (ho : o.op = .call { callee := .builtin .append, args := #[s, x], argTypes := #[t, t] })
    (ys : List α) (A : Option Addr) (c : Nat) (hs : a.eval s = .slice none 0 0) (hx : a.eval x = .slice A ys.length c)
    (HR : d.C W A ys.length ys) (hl : ys.length * bytes ≤ 140737488355328)
    (h : ∀ A1 c1 w1, d.R e w1 W.heap.size (fun _ => True) (.slice A1 ys.length c1) ys → Below W.heap.size W w1 → Kc (a.put o.dst (.slice A1 ys.length c1)) w1) :
    if Region.wanted o (yielded ops a.tmps) = true then Oper.wp P o a W Kc Q else Kc (a.put o.dst undef) W :=
  rows_step T W.heap.size hw s x ho (.slice none 0 0) [] ys A c hs hx (Kd.R_nil _ _ _ _ _) HR (Nat.le_refl _) (by simpa using hl) (fun v1 w1 hR hb _ => by obtain ⟨A1, c1, rfl⟩ := Kd.R_slice hR; exact h A1 c1 w1 hR hb)
theorem clone_list (T : RowT P d t e bytes z) {W : World} (hgd : o.guard = none) (s x : Operand)
    (ho : o.op = .call { callee := .builtin .append, args := #[s, x], argTypes := #[t, t] })
    (ys : List α) (A : Option Addr) (c : Nat) (hs : a.eval s = .slice none 0 0) (hx : a.eval x = .slice A ys.length c)
    (HR : d.C W A ys.length ys) (hl : ys.length * bytes ≤ 140737488355328)
    (h : ∀ A1 c1 w1, d.R e w1 W.heap.size (fun _ => True) (.slice A1 ys.length c1) ys → Below W.heap.size W w1 → wpList P ops Q rest (a.put o.dst (.slice A1 ys.length c1)) w1) : wpList P ops Q (o :: rest) a W :=
  rows_list T W.heap.size hgd s x ho (.slice none 0 0) [] ys A c hs hx (Kd.R_nil _ _ _ _ _) HR (Nat.le_refl _) (by simpa using hl) (fun v1 w1 hR hb _ => by obtain ⟨A1, c1, rfl⟩ := Kd.R_slice hR; exact h A1 c1 w1 hR hb)
end
section
variable {α : Type} {d : Kd α} {e base : Nat} {w w1 : World} {v : Value} {xs : List α}
/-- The empty literal. -/
theorem R_lit0 (d : Kd α) (e : Nat) (W : World) : d.R e (W.alloc (.cells #[] e)) W.heap.size (fun _ => True) (.slice (some ⟨W.heap.size, 0, none⟩) 0 0) [] :=
  ⟨fun _ _ => trivial, [], by simpa using World.ownsRow_lit (base := W.heap.size) (e := e) (size := d.sz) W #[] 0 (Nat.le_refl _) (by simp [maxLen]) (by simp), by simp, fun j p h => by simp at h⟩
/-- A literal of one element. -/
theorem R_lit1 (d : Kd α) (hf : Flat d) (e : Nat) (W : World) (x : α) (cs : List Value) (hk : d.K W x cs) : d.R e (W.alloc (.cells cs.toArray e)) W.heap.size (fun _ => True) (.slice (some ⟨W.heap.size, 0, none⟩) 1 1) [x] := by
  have hl := d.K_len hk
  refine ⟨fun _ _ => trivial, cs, by simpa using World.ownsRow_lit (base := W.heap.size) (e := e) (size := d.sz) W cs.toArray 1 (Nat.le_refl _) (by simp [maxLen]) (by simp [hl]), by simp [hl], fun j p h => ?_⟩
  match j, h with
  | 0, h =>
    obtain rfl : x = p := by simpa using h
    rw [Nat.zero_mul, List.drop_zero, List.take_of_length_le (by omega)]
    exact d.M_mono (fun _ h => h.elim) (hf W x cs hk _ _)
  | j + 1, h => simp at h
/-- A store below all that the row leads to. -/
theorem R_elder (h : d.R e w base (fun _ => True) v xs) {p : Addr} (hp : p.block < base) (u : Value) : d.R e (w.setCell p u) base (fun _ => True) v xs :=
  Kd.R_mono (Kd.R_far (Kd.R_bound h) (fun k hk he => by have := hk.2.1; omega) u) (fun _ _ => trivial)
/-- A store beside it. -/
theorem R_younger (h : d.R e w base (fun _ => True) v xs) {p : Addr} (hp : w.heap.size ≤ p.block) (u : Value) : d.R e (w.setCell p u) base (fun _ => True) v xs :=
  Kd.R_mono (Kd.R_far (Kd.R_bound h) (fun k hk he => by have := hk.2.2.1; omega) u) (fun _ _ => trivial)
theorem C_nil {A : Option Addr} (d : Kd α) (w : World) (h : A = none) {n : Nat} (hr : d.C w A n xs) : xs = [] ∧ n = 0 := by
  subst h
  rcases Nat.eq_zero_or_pos n with h0 | h0
  · exact ⟨List.eq_nil_of_length_eq_zero (hr.1.trans h0), h0⟩
  · obtain ⟨ad, h, _⟩ := hr.2.2 h0; cases h
theorem C_none (d : Kd α) (w : World) : d.C w none 0 [] := ⟨rfl, by omega, fun h => absurd h (by omega)⟩
theorem C_of (h : d.R e w base (fun _ => True) v xs) : ∃ A c, v = .slice A xs.length c ∧ xs.length ≤ c ∧ d.C w A xs.length xs := Kd.R_reads h
theorem C_ofR {A : Option Addr} {n c : Nat} (h : d.R e w base (fun _ => True) (.slice A n c) xs) : d.C w A xs.length xs := by
  obtain ⟨A', c', he, _, hr⟩ := Kd.R_reads h
  injection he with h1 h2 h3
  rw [h1]; exact hr
theorem C_pre {A : Option Addr} (h : d.C w A xs.length xs) (n : Nat) (hn : n ≤ xs.length) : d.C w A n (xs.take n) := by
  have := Kd.C_take h hn
  rwa [List.length_take, Nat.min_eq_left hn] at this
theorem take_rd (l : List Int) (k : Nat) (h : k < l.length) : l.take (k + 1) = l.take k ++ [rd l k] := by
  rw [List.take_succ_eq_append_getElem h, rd, List.getD_eq_getElem?_getD, Int.toNat_natCast, List.getElem?_eq_getElem h]; rfl
theorem int_at {k : IntKind} {xs : List Int} {A : Option Addr} {n : Nat} (h : (Kd.int k).C w A n xs) (i : Nat) (h1 : i < n) : ∃ ad, A = some ad ∧ w.cell? (ad.add i) = some (.int k (rd xs i)) := by
  obtain ⟨ad, e, hx⟩ := Kd.at_int h (i : Int) (by omega) (by omega)
  exact ⟨ad, e, by rwa [Int.toNat_natCast] at hx⟩
/-- Element i of a row whose elements' cells are told outright. -/
theorem flat_at {n m : Nat} {enc : α → List Value} {hl : ∀ x, (enc x).length = n} {h1 : ∀ x, ∀ u ∈ enc x, u.oneCell' = true} {A : Option Addr} (h : (flatKd n enc hl h1).C w A m xs) (i : Nat) (hi : i < xs.length) :
    ∃ ad, A = some ad ∧ (∀ u, (enc xs[i])[0]? = some u → w.cell? (ad.add (i * n)) = some u) ∧ ∀ j u, 0 < j → (enc xs[i])[j]? = some u → w.cell? ⟨(ad.add (i * n)).block, (ad.add (i * n)).off + j, none⟩ = some u := by
  obtain ⟨ad, e, hc⟩ := h.2.2 (by have := h.1; omega)
  obtain ⟨c, hcl, hk, hcell⟩ := hc i xs[i] (List.getElem?_eq_getElem hi)
  have hk' : c = enc xs[i] := hk
  subst hk'
  refine ⟨ad, e, fun u hu => hcell 0 u hu, fun j u hj hu => ?_⟩
  rw [← add_field ad _ j hj]
  exact hcell j u hu
theorem string_at {A : Option Addr} {m : Nat} {xs : List ByteArray} (h : Kd.string.C w A m xs) (i : Nat) (hi : i < xs.length) : ∃ ad, A = some ad ∧ w.cell? (ad.add i) = some (.string xs[i]) := by
  obtain ⟨ad, e, hc⟩ := h.2.2 (by have := h.1; omega)
  obtain ⟨c, hcl, hk, hcell⟩ := hc i xs[i] (List.getElem?_eq_getElem hi)
  have hk' : c = [.string xs[i]] := hk
  subst hk'
  refine ⟨ad, e, ?_⟩
  have := hcell 0 _ rfl
  rwa [show i * Kd.string.sz + 0 = i from Nat.mul_one i] at this
end
end Go.Proofs.YtijdghplfhfpaaaDoor.U
