/- The claim LmtpLinesUptoCardSaid, part 1 of 5. -/
import Derived.Test.YtijdghplfhfpaaaDoorWWords
import Derived.Test.YtijdghplfhfpaaaDoorWLast
import Derived.Test.YtijdghplfhfpaaaDoorWEqStruct
import Derived.Deep.RegionHeld3
import Derived.Deep.DeepFit
import Derived.StillTailTactics
import Derived.Outline
import Derived.WalkSpells
import Derived.Lib.Hide
import Derived.Test.YtijdghplfhfpaaaDoorRows
import Derived.ChangeArms
import Derived.Deep.Slices
import Derived.SizedLaws
import Derived.ProofKit
import Derived.ChangeOld
import Derived.Lib.SmallJoins
import Derived.Lib.LaidTab
import Derived.LaidMore
import Derived.Lay
import Derived.OpenShut
import Derived.MakeChecks
import Derived.Deep.DeepHandedRow
import Derived.Stop.Joined
import Derived.Test.YtijdghplfhfpaaaDoorProg
import Derived.Lib.SplitLaws
import Derived.Lib.IndexBytes
import Derived.Lib.HexFns
import Derived.Lib.BufferOwn
import Derived.Lib.BufferWrite
import Derived.Test.YtijdghplfhfpaaaDoorShelf
import Derived.Deep.QuietTactic
import Derived.BigQuiet
import Derived.Defers
import Derived.WalkLawsBesides
import Derived.Lib.ConvBytes
/- Small laws over the print's words: rows that are copied and appended to, stores, facts behind a call. -/
namespace Go.Proofs.YtijdghplfhfpaaaDoor.U
open Go.RowKit Go.Proofs.YtijdghplfhfpaaaDoorW.PrintWords
set_option linter.unusedVariables false

theorem bcell {W w1 : World} (hb : Below W.heap.size W w1) : (∀ b o, b < W.heap.size → w1.cell? ⟨b, o, none⟩ = W.cell? ⟨b, o, none⟩) ∧ (∀ b o, b < W.heap.size → w1.frozen? ⟨b, o, none⟩ = W.frozen? ⟨b, o, none⟩) :=
  ⟨fun b o h => hb.cell (p := ⟨b, o, none⟩) h, fun b o h => hb.frozen (p := ⟨b, o, none⟩) h⟩

theorem bytes_iff {a b : ByteArray} : a.data.toList = b.data.toList ↔ a = b :=
  ⟨fun h => by obtain ⟨⟨x⟩⟩ := a; obtain ⟨⟨y⟩⟩ := b; simp at h; rw [h], fun h => by rw [h]⟩
/-- Elements without rows of their own: what reads so may stand so. -/
def Flat {α : Type} (d : Kd α) : Prop := ∀ W x cs, d.K W x cs → ∀ W' base, d.M W' base (fun _ => False) x cs
theorem flat_scalar {α : Type} {enc : α → Value} {h1 : ∀ x, (enc x).oneCell' = true} : Flat (Kd.scalar enc h1) := fun _ _ _ h _ _ => h
/-- A kind whose cells are told outright. -/
def flatKd {α : Type} (n : Nat) (enc : α → List Value) (hl : ∀ x, (enc x).length = n) (h1 : ∀ x, ∀ u ∈ enc x, u.oneCell' = true) : Kd α where
  sz := n
  E := []
  K := fun _ x cs => cs = enc x
  M := fun _ _ _ x cs => cs = enc x
  K_len := fun h => by rw [h]; exact hl _
  K_one := fun h u hu => h1 _ u (h ▸ hu)
  K_below := fun _ h => h
  K_of_M := fun h => h
  M_mono := fun _ h => h
  M_bound := fun h => h
  M_move := fun _ h => h
  M_lower := fun _ h => h
theorem flat_kd {α : Type} {n : Nat} {enc : α → List Value} {hl : ∀ x, (enc x).length = n} {h1 : ∀ x, ∀ u ∈ enc x, u.oneCell' = true} : Flat (flatKd n enc hl h1) := fun _ _ _ h _ _ => h

/-- A slice type of a program: t its number, e its element's, z the zero value. -/
structure RowT (P : Program) {α : Type} (d : Kd α) (t e bytes : Nat) (z : Value) : Prop where
  ht : P.underlying t = some (.slice e)
  hinfo : (P.info? e).map (fun i => (i.zero, i.size, i.bytes)) = some (some z, d.sz, bytes)
  hz : z.cells.size = d.sz
  hs0 : 0 < d.sz
  hb0 : 0 < bytes
  flat : Flat d

section
variable {P : Program} {ops : Array Oper} {rest : List Oper} {o : Oper} {a : Act} {Q : Exit → Act → World → Prop} {Kc : Act → World → Prop} {α : Type} {d : Kd α} {t e bytes : Nat} {z : Value}
theorem rows_step (T : RowT P d t e bytes z) (base : Nat) {W : World} (hw : Region.wanted o (yielded ops a.tmps) = true) (s x : Operand)
    (ho : o.op = .call { callee := .builtin .append, args := #[s, x], argTypes := #[t, t] })
    (v : Value) (xs ys : List α) (A : Option Addr) (c : Nat) (hs : a.eval s = v) (hx : a.eval x = .slice A ys.length c)
    (HO : d.R e W base (fun _ => True) v xs) (HR : d.C W A ys.length ys) (hbase : base ≤ W.heap.size) (hl : (xs.length + ys.length) * bytes ≤ 140737488355328)
    (h : ∀ v1 w1, d.R e w1 base (fun _ => True) v1 (xs ++ ys) → Below base W w1 → W.grownBy w1 v.ownBlock → Kc (a.put o.dst v1) w1) :
    if Region.wanted o (yielded ops a.tmps) = true then Oper.wp P o a W Kc Q else Kc (a.put o.dst undef) W :=
  Kd.R_append_rows_step d (Rr := d.K W) (w0 := W) base hw s x t e z bytes ho T.ht T.hinfo T.hz T.hs0 T.hb0 v xs ys A ys.length c (fun _ => True) (fun _ => False) hs hx HO HR
    (fun x cs hk => T.flat W x cs hk _ _) (fun _ h => h.elim) (fun _ _ => trivial) (Below.refl _ _) hbase hl (fun v1 w1 hR hb hg _ => h v1 w1 hR hb hg)
theorem rows_list (T : RowT P d t e bytes z) (base : Nat) {W : World} (hgd : o.guard = none) (s x : Operand)
    (ho : o.op = .call { callee := .builtin .append, args := #[s, x], argTypes := #[t, t] })
    (v : Value) (xs ys : List α) (A : Option Addr) (c : Nat) (hs : a.eval s = v) (hx : a.eval x = .slice A ys.length c)
    (HO : d.R e W base (fun _ => True) v xs) (HR : d.C W A ys.length ys) (hbase : base ≤ W.heap.size) (hl : (xs.length + ys.length) * bytes ≤ 140737488355328)
    (h : ∀ v1 w1, d.R e w1 base (fun _ => True) v1 (xs ++ ys) → Below base W w1 → W.grownBy w1 v.ownBlock → wpList P ops Q rest (a.put o.dst v1) w1) : wpList P ops Q (o :: rest) a W :=
  Kd.R_append_rows d (Rr := d.K W) (w0 := W) base hgd s x t e z bytes ho T.ht T.hinfo T.hz T.hs0 T.hb0 v xs ys A ys.length c (fun _ => True) (fun _ => False) hs hx HO HR
    (fun x cs hk => T.flat W x cs hk _ _) (fun _ h => h.elim) (fun _ _ => trivial) (Below.refl _ _) hbase hl (fun v1 w1 hR hb hg _ => h v1 w1 hR hb hg)
/-- append(v, x), x's cells cs in the literal's block -/
theorem snoc_list (T : RowT P d t e bytes z) (base : Nat) {W : World} (hgd : o.guard = none) (s x : Operand)
    (ho : o.op = .call { callee := .builtin .append, args := #[s, x], argTypes := #[t, t] })
    (v : Value) (xs : List α) (p : α) (cs : List Value) (hs : a.eval s = v) (hx : a.eval x = .slice (some ⟨W.heap.size, 0, none⟩) 1 1) (hp : d.K W p cs)
    (HO : d.R e W base (fun _ => True) v xs) (hbase : base ≤ W.heap.size) (hl : (xs.length + 1) * bytes ≤ 140737488355328)
    (h : ∀ v1 w1, d.R e w1 base (fun _ => True) v1 (xs ++ [p]) → Below base W w1 → W.grownBy w1 v.ownBlock → wpList P ops Q rest (a.put o.dst v1) w1) :
    wpList P ops Q (o :: rest) a (W.alloc (.cells cs.toArray e)) :=
  Kd.R_append d (w0 := W) base hgd s x t e z bytes ho T.ht T.hinfo T.hz T.hs0 T.hb0 v xs p cs (fun _ => True) (fun _ => False) hs hx (T.flat W p cs hp _ _) (fun _ h => h.elim) (fun _ _ => trivial) HO (Below.refl _ _) hbase hl
    (fun v1 w1 hR hb hg _ => h v1 w1 hR hb hg)
theorem clone_list (T : RowT P d t e bytes z) {W : World} (hgd : o.guard = none) (s x : Operand)
    (ho : o.op = .call { callee := .builtin .append, args := #[s, x], argTypes := #[t, t] })
    (ys : List α) (A : Option Addr) (c : Nat) (hs : a.eval s = .slice none 0 0) (hx : a.eval x = .slice A ys.length c)
    (HR : d.C W A ys.length ys) (hl : ys.length * bytes ≤ 140737488355328)
    (h : ∀ A1 c1 w1, d.R e w1 W.heap.size (fun _ => True) (.slice A1 ys.length c1) ys → Below W.heap.size W w1 → wpList P ops Q rest (a.put o.dst (.slice A1 ys.length c1)) w1) : wpList P ops Q (o :: rest) a W :=
  rows_list T W.heap.size hgd s x ho (.slice none 0 0) [] ys A c hs hx (Kd.R_nil _ _ _ _ _) HR (Nat.le_refl _) (by simpa using hl) (fun v1 w1 hR hb _ => by obtain ⟨A1, c1, rfl⟩ := Kd.R_slice hR; exact h A1 c1 w1 hR hb)
end
section
variable {α : Type} {d : Kd α} {e base : Nat} {w w1 : World} {v : Value} {xs : List α}
/-- The empty literal. -/
theorem R_lit0 (d : Kd α) (e : Nat) (W : World) : d.R e (W.alloc (.cells #[] e)) W.heap.size (fun _ => True) (.slice (some ⟨W.heap.size, 0, none⟩) 0 0) [] :=
  ⟨fun _ _ => trivial, [], by simpa using World.ownsRow_lit (base := W.heap.size) (e := e) (size := d.sz) W #[] 0 (Nat.le_refl _) (by simp [maxLen]) (by simp), by simp, fun j p h => by simp at h⟩
/-- A literal of one element. -/
theorem R_lit1 (d : Kd α) (hf : Flat d) (e : Nat) (W : World) (x : α) (cs : List Value) (hk : d.K W x cs) : d.R e (W.alloc (.cells cs.toArray e)) W.heap.size (fun _ => True) (.slice (some ⟨W.heap.size, 0, none⟩) 1 1) [x] := by
  have hl := d.K_len hk
  refine ⟨fun _ _ => trivial, cs, by simpa using World.ownsRow_lit (base := W.heap.size) (e := e) (size := d.sz) W cs.toArray 1 (Nat.le_refl _) (by simp [maxLen]) (by simp [hl]), by simp [hl], fun j p h => ?_⟩
  match j, h with
  | 0, h =>
    obtain rfl : x = p := by simpa using h
    rw [Nat.zero_mul, List.drop_zero, List.take_of_length_le (by omega)]
    exact d.M_mono (fun _ h => h.elim) (hf W x cs hk _ _)
  | j + 1, h => simp at h
/-- A store below all that the row leads to. -/
theorem R_elder (h : d.R e w base (fun _ => True) v xs) {p : Addr} (hp : p.block < base) (u : Value) : d.R e (w.setCell p u) base (fun _ => True) v xs :=
  Kd.R_mono (Kd.R_far (Kd.R_bound h) (fun k hk he => by have := hk.2.1; omega) u) (fun _ _ => trivial)
theorem C_nil {A : Option Addr} (d : Kd α) (w : World) (h : A = none) {n : Nat} (hr : d.C w A n xs) : xs = [] ∧ n = 0 := by
  subst h
  rcases Nat.eq_zero_or_pos n with h0 | h0
  · exact ⟨List.eq_nil_of_length_eq_zero (hr.1.trans h0), h0⟩
  · obtain ⟨ad, h, _⟩ := hr.2.2 h0; cases h
theorem C_none (d : Kd α) (w : World) : d.C w none 0 [] := ⟨rfl, by omega, fun h => absurd h (by omega)⟩
theorem C_of (h : d.R e w base (fun _ => True) v xs) : ∃ A c, v = .slice A xs.length c ∧ xs.length ≤ c ∧ d.C w A xs.length xs := Kd.R_reads h
theorem C_pre {A : Option Addr} (h : d.C w A xs.length xs) (n : Nat) (hn : n ≤ xs.length) : d.C w A n (xs.take n) := by
  have := Kd.C_take h hn
  rwa [List.length_take, Nat.min_eq_left hn] at this
theorem int_at {k : IntKind} {xs : List Int} {A : Option Addr} {n : Nat} (h : (Kd.int k).C w A n xs) (i : Nat) (h1 : i < n) : ∃ ad, A = some ad ∧ w.cell? (ad.add i) = some (.int k (rd xs i)) := by
  obtain ⟨ad, e, hx⟩ := Kd.at_int h (i : Int) (by omega) (by omega)
  exact ⟨ad, e, by rwa [Int.toNat_natCast] at hx⟩
/-- Element i of a row whose elements' cells are told outright. -/
theorem flat_at {n m : Nat} {enc : α → List Value} {hl : ∀ x, (enc x).length = n} {h1 : ∀ x, ∀ u ∈ enc x, u.oneCell' = true} {A : Option Addr} (h : (flatKd n enc hl h1).C w A m xs) (i : Nat) (hi : i < xs.length) :
    ∃ ad, A = some ad ∧ (∀ u, (enc xs[i])[0]? = some u → w.cell? (ad.add (i * n)) = some u) ∧ ∀ j u, 0 < j → (enc xs[i])[j]? = some u → w.cell? ⟨(ad.add (i * n)).block, (ad.add (i * n)).off + j, none⟩ = some u := by
  obtain ⟨ad, e, hc⟩ := h.2.2 (by have := h.1; omega)
  obtain ⟨c, hcl, hk, hcell⟩ := hc i xs[i] (List.getElem?_eq_getElem hi)
  have hk' : c = enc xs[i] := hk
  subst hk'
  refine ⟨ad, e, fun u hu => hcell 0 u hu, fun j u hj hu => ?_⟩
  rw [← add_field ad _ j hj]
  exact hcell j u hu
theorem string_at {A : Option Addr} {m : Nat} {xs : List ByteArray} (h : Kd.string.C w A m xs) (i : Nat) (hi : i < xs.length) : ∃ ad, A = some ad ∧ w.cell? (ad.add i) = some (.string xs[i]) := by
  obtain ⟨ad, e, hc⟩ := h.2.2 (by have := h.1; omega)
  obtain ⟨c, hcl, hk, hcell⟩ := hc i xs[i] (List.getElem?_eq_getElem hi)
  have hk' : c = [.string xs[i]] := hk
  subst hk'
  refine ⟨ad, e, ?_⟩
  have := hcell 0 _ rfl
  rwa [show i * Kd.string.sz + 0 = i from Nat.mul_one i] at this
end
end Go.Proofs.YtijdghplfhfpaaaDoor.U

/- What comes in as data is read, where what is read is of small bulk: from a reading of a type to the print's kinds, with the bulk's bounds. -/
namespace Go.Proofs.YtijdghplfhfpaaaDoor.UB
open Go.ChangeMaps (open_string)
open Go.RowKit Go.Proofs.YtijdghplfhfpaaaDoorW.PrintWords Go.ChangeShapes Go.WideShapes Go.Proofs.YtijdghplfhfpaaaDoor.U
/-- How many values and letters a reading may hold. -/
abbrev bulkTop : Nat := 1048576

def OpensN (P : Program) {α : Type} (n : Nat) (t : TypeId) (d : Kd α) (ok : α → Prop) : Prop :=
  ∀ {H : Type} (enc : TypeId × Value → H) (W : World) (base : Nat) (spare : Nat → Bool) (held : Bool) (cs : List Value) (x : DataW H × List MemPlace),
    DataW.trod enc P W base spare held n t cs = some x → Rows.uptoBulk x.1 ≤ bulkTop → ∃ y, d.K W y cs ∧ ok y
def Opens (P : Program) {α : Type} (t : TypeId) (d : Kd α) (ok : α → Prop) : Prop := ∀ n, OpensN P n t d ok

section
variable {P : Program} {t e : TypeId} {α β : Type} {d : Kd α} {d2 : Kd β} {ok : α → Prop} {ok2 : β → Prop} {n : Nat}
theorem opens_int {k : IntKind} (hu : P.underlying t = some (.int k)) : OpensN P n t (Kd.int k) (fun y => (Lit.int k y).wf = true) := by
  intro H enc W base spare held cs x h _
  obtain ⟨y, rfl, rfl, hy⟩ := DataW.trod_int hu h
  exact ⟨y, rfl, hy⟩
theorem opens_bool (hu : P.underlying t = some .bool) : OpensN P n t Kd.bool (fun _ => True) := by
  intro H enc W base spare held cs x h _
  obtain ⟨y, rfl, rfl⟩ := DataW.trod_bool hu h
  exact ⟨y, rfl, trivial⟩
theorem opens_string (hu : P.underlying t = some .string) : OpensN P n t Kd.string (fun s => s.size ≤ bulkTop) := by
  intro H enc W base spare held cs x h hm
  obtain ⟨y, rfl, rfl, hy⟩ := DataW.trod_string hu h
  refine ⟨y, rfl, ?_⟩
  simp only [Rows.uptoBulk, Array.length_toList] at hm
  have : y.size = y.data.size := rfl
  omega
theorem list_of {p : Nat → α → Prop} : ∀ (len : Nat), (∀ i, i < len → ∃ y, p i y) → ∃ l : List α, l.length = len ∧ ∀ i y, l[i]? = some y → p i y
  | 0, _ => ⟨[], rfl, fun i y h => by simp at h⟩
  | len + 1, h => by
    obtain ⟨l, hl, hp⟩ := list_of len (fun i hi => h i (Nat.lt_succ_of_lt hi))
    obtain ⟨y, hy⟩ := h len (Nat.lt_succ_self _)
    refine ⟨l ++ [y], by simp [hl], fun i z hz => ?_⟩
    rcases Nat.lt_or_ge i l.length with hi | hi
    · rw [List.getElem?_append_left hi] at hz
      exact hp i z hz
    · rw [List.getElem?_append_right hi] at hz
      have : i - l.length = 0 := by
        rcases Nat.eq_zero_or_pos (i - l.length) with h0 | h0
        · exact h0
        · rw [List.getElem?_eq_none (by simp; omega)] at hz; cases hz
      rw [this] at hz
      obtain rfl : y = z := by simpa using hz
      obtain rfl : i = len := by omega
      exact hy
theorem mem_bulk {H : Type} {l : List (DataW H)} {x : DataW H} (hx : x ∈ l) : Rows.uptoBulk x ≤ Rows.uptoBulkAll l := by
  induction l with
  | nil => cases hx
  | cons y l ih =>
    simp only [Rows.uptoBulkAll]
    rcases List.mem_cons.1 hx with rfl | hx
    · omega
    · have := ih hx; omega
theorem bulk_pos {H : Type} (d : DataW H) : 1 ≤ Rows.uptoBulk d := by
  cases d with
  | lit l => cases l <;> simp [Rows.uptoBulk]
  | nil => simp [Rows.uptoBulk]
  | ptr d => simp [Rows.uptoBulk]
  | slice elems spare => simp [Rows.uptoBulk]
  | agg parts => simp [Rows.uptoBulk]
  | iface t d => simp [Rows.uptoBulk]
  | map entries => simp [Rows.uptoBulk]
  | held h => simp [Rows.uptoBulk]
theorem length_bulk {H : Type} (l : List (DataW H)) : l.length ≤ Rows.uptoBulkAll l := by
  induction l with
  | nil => simp [Rows.uptoBulkAll]
  | cons x r ih => have := bulk_pos x; simp only [Rows.uptoBulkAll, List.length_cons]; omega
theorem cells_get {w : World} {base : Nat} {a : Addr} {m : Nat} {c : List Value} (h : w.cells? base a m = some c) : c.length = m ∧ ∀ i u, c[i]? = some u → w.cell? (a.add i) = some u := by
  unfold World.cells? at h
  split at h
  · have hl : c.length = m := by simpa using mapM_some_length h
    refine ⟨hl, fun i u hu => ?_⟩
    have hi : i < m := by
      rcases Nat.lt_or_ge i m with hi | hi
      · exact hi
      · rw [List.getElem?_eq_none (by omega)] at hu; cases hu
    have := mapM_some_get h i i (by simp [hi])
    rw [this, hu]
  · cases h
theorem opens_slice (hu : P.underlying t = some (.slice e)) (hs : P.cellsOf e = d.sz) (hO : ∀ m, m < n → OpensN P m e d ok) :
    OpensN P n t (Kd.slice e d) (fun l => l.length ≤ bulkTop ∧ ∀ y ∈ l, ok y) := by
  intro H enc W base spare held cs x h hm
  rcases DataW.trod_slice hu h with ⟨rfl, rfl⟩ | ⟨a, len, cap, elems, rest, n', hn, rfl, rfl, hb, hl, hc, hlen, hel, hsp, hns⟩
  · exact ⟨[], ⟨none, 0, rfl, Nat.zero_le _, C_none _ _⟩, by simp, fun y hy => by cases hy⟩
  · simp only [Rows.uptoBulk] at hm
    have key : ∀ i, i < len → ∃ y, (∃ c, c.length = d.sz ∧ d.K W y c ∧ ∀ j u, c[j]? = some u → W.cell? (a.add (i * d.sz + j)) = some u) ∧ ok y := by
      intro i hi
      have h1 := hel i hi
      rw [List.getElem?_eq_getElem (by omega)] at h1
      obtain ⟨c, hc1, hc2⟩ := Option.bind_eq_some_iff.1 h1
      have hmem : elems[i].1 ∈ elems.map (·.1) := List.mem_map.2 ⟨_, List.getElem_mem _, rfl⟩
      obtain ⟨y, hy, hok⟩ := hO n' (by omega) enc W base spare held c _ hc2 (by have := mem_bulk hmem; omega)
      obtain ⟨hcl, hcg⟩ := cells_get hc1
      refine ⟨y, ⟨c, hcl.trans hs, hy, fun j u hju => ?_⟩, hok⟩
      have := hcg j u hju
      rwa [Go.Deep.add_add, hs] at this
    obtain ⟨l, hll, hlp⟩ := list_of len key
    have h63 : len ≤ 9223372036854775807 := by simp only [maxLen] at hc; omega
    refine ⟨l, ⟨some a, cap, by rw [hll], by omega, ⟨rfl, by omega, fun _ => ⟨a, rfl, fun j p hj => (hlp j p hj).1⟩⟩⟩, ?_, fun y hy => ?_⟩
    · have := length_bulk (elems.map (·.1))
      simp only [List.length_map] at this
      omega
    · obtain ⟨i, hi, rfl⟩ := List.mem_iff_getElem.1 hy
      exact (hlp i _ (List.getElem?_eq_getElem hi)).2

/-- The fields of a struct from a cell on. -/
def OpensF (P : Program) {α : Type} (n : Nat) (fs : List Field) (off len : Nat) (d : Kd α) (ok : α → Prop) : Prop :=
  ∀ {H : Type} (enc : TypeId × Value → H) (W : World) (base : Nat) (spare : Nat → Bool) (held : Bool) (cs : List Value) (xs : List (DataW H × List MemPlace)), cs.length = len →
    xs.length = fs.length → (∀ (i : Nat) (f : Field), fs[i]? = some f → DataW.trod enc P W base spare held n f.type ((cs.drop f.offset).take (P.cellsOf f.type)) = xs[i]?) →
    Rows.uptoBulkAll (xs.map (·.1)) ≤ bulkTop → ∃ y, d.K W y (cs.drop off) ∧ ok y
theorem opensF_one {f : Field} {off len : Nat} (ho : f.offset = off) (hc : off + P.cellsOf f.type = len) (hO : OpensN P n f.type d ok) : OpensF P n [f] off len d ok := by
  intro H enc W base spare held cs xs hl hx h hm
  match xs, hx with
  | [x], _ =>
    have h0 := h 0 f rfl
    rw [ho, List.take_of_length_le (by rw [List.length_drop]; omega)] at h0
    refine hO enc W base spare held _ x h0 ?_
    simp only [List.map_cons, List.map_nil, Rows.uptoBulkAll] at hm
    omega
theorem opensF_cons {f : Field} {fs : List Field} {off len : Nat} (ho : f.offset = off) (hs : P.cellsOf f.type = d.sz) (hO : OpensN P n f.type d ok) (hF : OpensF P n fs (off + d.sz) len d2 ok2) :
    OpensF P n (f :: fs) off len (Kd.pair d d2) (fun y => ok y.1 ∧ ok2 y.2) := by
  intro H enc W base spare held cs xs hl hx h hm
  match xs, hx with
  | x :: xs, hx =>
    have h0 := h 0 f rfl
    rw [ho, hs] at h0
    simp only [List.map_cons, Rows.uptoBulkAll] at hm
    obtain ⟨y, hy, hok⟩ := hO enc W base spare held _ x h0 (by omega)
    obtain ⟨y2, hy2, hok2⟩ := hF enc W base spare held cs xs hl (by simpa using hx) (fun i g hg => h (i + 1) g hg) (by omega)
    refine ⟨(y, y2), ⟨_, cs.drop (off + d.sz), ?_, hy, hy2⟩, hok, hok2⟩
    rw [← List.drop_drop]; exact (List.take_append_drop _ _).symm
theorem opens_struct {fs : Array Field} {len : Nat} (hu : P.underlying t = some (.struct fs)) (hc : P.cellsOf t = len) (hF : ∀ m, m < n → OpensF P m fs.toList 0 len d ok) : OpensN P n t d ok := by
  intro H enc W base spare held cs x h hm
  obtain ⟨xs, n', hn, rfl, hl, hxl, hx⟩ := DataW.trod_struct hu h
  simp only [Rows.uptoBulk] at hm
  obtain ⟨y, hy, hok⟩ := hF n' (by omega) enc W base spare held cs xs (hl.trans hc) (by simpa using hxl) (fun i f hf => hx i f (by simpa using hf)) (by omega)
  exact ⟨y, by simpa using hy, hok⟩
/-! ### arguments -/
variable {H : Type} {enc : TypeId × Value → H} {W : World} {base b0 : Nat} {spare : Nat → Bool} {held : Bool} {v : Value} {x : DataW H} {ps : List MemPlace} {r : Reach}
theorem arg_struct {fs : Array Field} (hu : P.underlying t = some (.struct fs)) (hv : Value.okWide P W r b0 t v) (h : DataW.Trod enc P W base spare held t v x ps) (hm : Rows.uptoBulk x ≤ bulkTop) (hO : Opens P t d ok) :
    ∃ y cs, v = .agg cs ∧ d.K W y cs.toList ∧ ok y := by
  obtain ⟨cs, rfl, _⟩ := okWide_struct hu hv
  obtain ⟨fuel, hf⟩ := h
  obtain ⟨y, hy, hok⟩ := hO fuel enc W base spare held _ _ hf hm
  exact ⟨y, cs, rfl, by simpa [Value.cells] using hy, hok⟩
theorem arg_slice (hu : P.underlying t = some (.slice e)) (hv : Value.okWide P W r b0 t v) (h : DataW.Trod enc P W base spare held t v x ps) (hm : Rows.uptoBulk x ≤ bulkTop) {ok' : List α → Prop} (hO : Opens P t (Kd.slice e d) ok') :
    ∃ y A c, v = .slice A y.length c ∧ y.length ≤ c ∧ d.C W A y.length y ∧ ok' y := by
  obtain ⟨a0, len, cap, rfl⟩ := okWide_slice hu hv
  obtain ⟨fuel, hf⟩ := h
  obtain ⟨y, ⟨A, c, hc, hl, hr⟩, hok⟩ := hO fuel enc W base spare held _ _ hf hm
  simp [Value.cells] at hc
  obtain ⟨rfl, rfl, rfl⟩ := hc
  exact ⟨y, _, _, rfl, hl, hr, hok⟩
theorem lt_of_cell {w : World} {b o : Nat} {u : Value} (h : w.cell? ⟨b, o, none⟩ = some u) : b < w.heap.size := by
  rcases Nat.lt_or_ge b w.heap.size with h1 | h1
  · exact h1
  · simp [World.cell?, Array.getElem?_eq_none h1] at h
theorem bulk_arg {ds : List (DataW H)} (h : Rows.uptoSmall H ds = true) {j : Nat} {y : DataW H} (hd : ds[j]? = some y) : Rows.uptoBulk y ≤ bulkTop :=
  Nat.le_trans (mem_bulk (List.mem_of_getElem? hd)) (of_decide_eq_true h)
theorem arg_string (hu : P.underlying t = some .string) (hv : Value.okWide P W r b0 t v) (h : DataW.Trod enc P W base spare held t v x ps) (hm : Rows.uptoBulk x ≤ bulkTop) :
    ∃ s, v = .string s ∧ s.size ≤ bulkTop := by
  obtain ⟨s, rfl, rfl, _, _⟩ := open_string hu hv h
  refine ⟨s, rfl, ?_⟩
  simp only [Rows.uptoBulk, Array.length_toList] at hm
  have : s.size = s.data.size := rfl
  omega
end
end Go.Proofs.YtijdghplfhfpaaaDoor.UB

/- Tables that are laid before the call: what their cells hold. -/
namespace Go.Proofs.YtijdghplfhfpaaaDoor.U
open Go Go.RowKit Go.Proofs.YtijdghplfhfpaaaDoorW.PrintWords
set_option linter.unusedVariables false
/-- A start that fits: the listed variables hold what is listed. -/
theorem witness_up {H : Type} {enc : TypeId × Value → H} {C : Checked} {f : FuncId} {fn : Func} {s : OpenSpec} {conds : List PathCond} {laid : List (String × DataW Unit)} (os : Os) (args : Array Value) (fuel : Nat)
    (hsh : ((World.laidAll C.prog os laid).forCall (fun _ _ => 0) ⟨#[], args, []⟩).Shaped C.prog)
    (hok : Input.okWideB C.prog ((World.laidAll C.prog os laid).forCall (fun _ _ => 0) ⟨#[], args, []⟩) f ⟨#[], args, []⟩ = true)
    (x : List (DataW H) × List (DataW H) × List MemPlace) (hx : DataW.whole enc C.prog ((World.laidAll C.prog os laid).forCall (fun _ _ => 0) ⟨#[], args, []⟩).memory fn.params.toList s.vars false args.toList fuel = some x)
    (hconds : conds.all (PathCond.test C.prog ⟨fn.params.toList, x.1, s.bare.plain.varTypes C.prog, x.2.1⟩) = true) (hkk : ∀ k, s.cond = some k → k H (x.1 ++ x.2.1) = true)
    (hsz : s.bare.sizedB enc C.prog fn false ((World.laidAll C.prog os laid).forCall (fun _ _ => 0) ⟨#[], args, []⟩).memory args fuel = true)
    (hl : laidMetH C.prog laid ((World.laidAll C.prog os laid).forCall (fun _ _ => 0) ⟨#[], args, []⟩).memory) :
    ∃ (w : World) (tape : Tape) (i : Input), w.os = os ∧ (w.forCall tape i).Shaped C.prog ∧ i.vars = [] ∧ Input.okWide C.prog (w.forCall tape i) .any w.heap.size f i ∧
      s.preRow enc C.prog fn conds false laid (w.forCall tape i).memory i.args ∧ ({ } : Assume).holds C.prog (lone (Frame.enter C.prog f i.args .normal) [] (w.forCall tape i)) :=
  ⟨World.laidAll C.prog os laid, fun _ _ => 0, ⟨#[], args, []⟩, World.laidAll_os _ _ _, hsh, (Input.okWide_of_okWideB (base := 0) hok).1, (Input.okWide_of_okWideB hok).2,
    OpenSpec.preRow_of_cond fuel hx hconds hkk hsz hl, by
      simp only [Assume.holds]
      exact ⟨by simp, by simp, fun _ => Modest.zero, by simp, by simp⟩⟩
end Go.Proofs.YtijdghplfhfpaaaDoor.U

/- Rows of the program's types, and what every walk calls. -/
namespace Go.Proofs.YtijdghplfhfpaaaDoor.H
open Go.RowKit Go.Proofs.YtijdghplfhfpaaaDoorW.PrintWords Go.Proofs.YtijdghplfhfpaaaDoorW.PrintLast Go.Proofs.YtijdghplfhfpaaaDoor.U
set_option linter.unusedVariables false
set_option linter.unusedSimpArgs false
/-- The model's test of a text against a literal. -/
theorem lit_iff (s : ByteArray) (l : List UInt8) : (s.toList == l) = true ↔ s = ⟨l.toArray⟩ := by
  rw [beq_iff_eq, ByteArray.toList_eq]
  exact ⟨fun h => ByteArray.ext (Array.toList_inj.mp (by simpa using h)), fun h => by rw [h]⟩
theorem lit_yes {s : ByteArray} {l : List UInt8} (h : s = ⟨l.toArray⟩) : (s.toList == l) = true := (lit_iff s l).2 h
theorem lit_no {s : ByteArray} {l : List UInt8} (h : s ≠ ⟨l.toArray⟩) : (s.toList == l) = false := by rw [← Bool.not_eq_true, lit_iff]; exact h
theorem rowU8 : RowT Tryd.prog (Kd.int .u8) 215 5 1 (.int .u8 0) :=
  ⟨Tryd.underlying215, by kernel_rfl, rfl, by decide, by decide, flat_scalar⟩
theorem rowStr : RowT Tryd.prog Kd.string 53 9 16 (.string ⟨#[]⟩) :=
  ⟨Tryd.underlying53, by kernel_rfl, rfl, by decide, by decide, flat_scalar⟩
theorem in_calls (a b c : Int) (w : World) : Calls Tryd.prog 52 #[.int .i64 a, .int .i64 b, .int .i64 c] w fun e w' => e = .returned (.bool (decide (b ≤ a) && decide (a ≤ c))) ∧ w = w' := by
  by_cases h : b ≤ a
  all_goals
    go_enter Tryd.func52, Tryd.ntmps52
    go_wp2
    go_ret
    exact ⟨by first | (simp [h]; done) | (simp; omega), rfl⟩
theorem in_yes (a b c : Int) (w : World) (h1 : b ≤ a) (h2 : a ≤ c) : Calls Tryd.prog 52 #[.int .i64 a, .int .i64 b, .int .i64 c] w fun e w' => e = .returned (.bool true) ∧ w = w' :=
  (in_calls a b c w).mono fun e w' ⟨he, hw⟩ => ⟨by rw [he]; simp [h1, h2], hw⟩
theorem in_no (a b c : Int) (w : World) (h : ¬ (b ≤ a ∧ a ≤ c)) : Calls Tryd.prog 52 #[.int .i64 a, .int .i64 b, .int .i64 c] w fun e w' => e = .returned (.bool false) ∧ w = w' :=
  (in_calls a b c w).mono fun e w' ⟨he, hw⟩ => ⟨by rw [he]; simp; omega, hw⟩
end Go.Proofs.YtijdghplfhfpaaaDoor.H

/- The flat structs of package api: Lean structures, their cells, their kinds. -/
namespace Go.Proofs.YtijdghplfhfpaaaDoor.H
open Go.RowKit Go.Proofs.YtijdghplfhfpaaaDoorW.PrintWords Go.Proofs.YtijdghplfhfpaaaDoorW.PrintLast Go.Proofs.YtijdghplfhfpaaaDoor.U
set_option linter.unusedVariables false
set_option linter.unusedSimpArgs false
structure AField where
  name : ByteArray
  value : ByteArray
def AField.enc (x : AField) : List Value := [.string x.name, .string x.value]
structure AAddress where
  loc : ByteArray
  dom : ByteArray
def AAddress.enc (x : AAddress) : List Value := [.string x.loc, .string x.dom]
def kAAddress : Kd AAddress := flatKd 2 AAddress.enc (fun _ => rfl) (fun x u hu => by simp only [AAddress.enc, List.mem_cons, List.mem_nil_iff, or_false] at hu; rcases hu with rfl | rfl <;> rfl)
structure AToken where
  kind : Int
  text : ByteArray
  number : Int
def AToken.enc (x : AToken) : List Value := [.int .i64 x.kind, .string x.text, .int .i64 x.number]
structure ALetter where
  from_ : AAddress
  to_ : AAddress
  text : ByteArray
def ALetter.enc (x : ALetter) : List Value := [.string x.from_.loc, .string x.from_.dom, .string x.to_.loc, .string x.to_.dom, .string x.text]
def kALetter : Kd ALetter := flatKd 5 ALetter.enc (fun _ => rfl) (fun x u hu => by simp only [ALetter.enc, List.mem_cons, List.mem_nil_iff, or_false] at hu; rcases hu with rfl | rfl | rfl | rfl | rfl <;> rfl)
structure AAction where
  kind : Int
  text : ByteArray
  flags : Int
def AAction.enc (x : AAction) : List Value := [.int .i64 x.kind, .string x.text, .int .i64 x.flags]
structure AMail where
  uid : Int
  flags : Int
  text : ByteArray
def AMail.enc (x : AMail) : List Value := [.int .i64 x.uid, .int .i64 x.flags, .string x.text]
structure AEntry where
  kind : Int
  box : ByteArray
  uid : Int
  flags : Int
  to_ : ByteArray
  text : ByteArray
def AEntry.enc (x : AEntry) : List Value := [.int .i64 x.kind, .string x.box, .int .i64 x.uid, .int .i64 x.flags, .string x.to_, .string x.text]
structure AUser where
  loc : ByteArray
  script : ByteArray
def AUser.enc (x : AUser) : List Value := [.string x.loc, .string x.script]
structure AAct where
  kind : Int
  conn : Int
  user : Int
  keep : Int
  data : ByteArray
  entry : AEntry
def AAct.enc (x : AAct) : List Value := [.int .i64 x.kind, .int .i64 x.conn, .int .i64 x.user, .int .i64 x.keep, .string x.data, .int .i64 x.entry.kind, .string x.entry.box, .int .i64 x.entry.uid, .int .i64 x.entry.flags, .string x.entry.to_, .string x.entry.text]
structure ABit where
  text : ByteArray
  run : Bool
  quoted : Bool
  apart : Bool
def ABit.enc (x : ABit) : List Value := [.string x.text, .bool x.run, .bool x.quoted, .bool x.apart]
end Go.Proofs.YtijdghplfhfpaaaDoor.H

/- Runs of bytes in a text: where they end. No program in sight. -/
namespace Go.Proofs.YtijdghplfhfpaaaDoor.H
set_option linter.unusedVariables false
/-- The place behind a run of bytes that are so. -/
def spanEnd (p : Int → Bool) (s : ByteArray) (i : Nat) : Nat := if h : i < s.size then if p s[i].toNat then spanEnd p s (i + 1) else i else i
termination_by s.size - i
theorem spanEnd_end (p : Int → Bool) {s : ByteArray} {i : Nat} (h : ¬ i < s.size) : spanEnd p s i = i := by rw [spanEnd, dif_neg h]
theorem spanEnd_no (p : Int → Bool) {s : ByteArray} {i : Nat} (h : i < s.size) (h2 : p s[i].toNat = false) : spanEnd p s i = i := by rw [spanEnd, dif_pos h, h2]; rfl
theorem spanEnd_yes (p : Int → Bool) {s : ByteArray} {i : Nat} (h : i < s.size) (h2 : p s[i].toNat = true) : spanEnd p s i = spanEnd p s (i + 1) := by rw [spanEnd, dif_pos h, h2]; rfl
theorem spanEnd_le (p : Int → Bool) (s : ByteArray) : ∀ n i, s.size - i = n → i ≤ s.size → i ≤ spanEnd p s i ∧ spanEnd p s i ≤ s.size := by
  intro n
  induction n with
  | zero => intro i h1 h2; rw [spanEnd_end p (by omega)]; omega
  | succ n ih =>
    intro i h1 h2
    have hlt : i < s.size := by omega
    cases h : p s[i].toNat with
    | false => rw [spanEnd_no p hlt h]; omega
    | true => rw [spanEnd_yes p hlt h]; have := ih (i + 1) (by omega) (by omega); omega
theorem span_ge (p : Int → Bool) (s : ByteArray) (i : Nat) (h : i ≤ s.size) : i ≤ spanEnd p s i := (spanEnd_le p s _ i rfl h).1
theorem span_le (p : Int → Bool) (s : ByteArray) (i : Nat) (h : i ≤ s.size) : spanEnd p s i ≤ s.size := (spanEnd_le p s _ i rfl h).2
/-- The byte behind a run is not so. -/
theorem span_stop (p : Int → Bool) (s : ByteArray) : ∀ n i, s.size - i = n → (h : spanEnd p s i < s.size) → p s[spanEnd p s i].toNat = false := by
  intro n
  induction n with
  | zero => intro i h1 h2; rw [spanEnd_end p (by omega)] at h2; omega
  | succ n ih =>
    intro i h1 h2
    have hlt : i < s.size := by omega
    cases h : p s[i].toNat with
    | false => simp only [spanEnd_no p hlt h]; exact h
    | true => simp only [spanEnd_yes p hlt h] at h2 ⊢; exact ih (i + 1) (by omega) h2
/-- The bytes of a run are so. -/
theorem span_in (p : Int → Bool) (s : ByteArray) : ∀ n i, s.size - i = n → ∀ k, i ≤ k → k < spanEnd p s i → ∃ h : k < s.size, p s[k].toNat = true := by
  intro n
  induction n with
  | zero => intro i h1 k h2 h3; rw [spanEnd_end p (by omega)] at h3; omega
  | succ n ih =>
    intro i h1 k h2 h3
    have hlt : i < s.size := by omega
    cases h : p s[i].toNat with
    | false => rw [spanEnd_no p hlt h] at h3; omega
    | true =>
      rw [spanEnd_yes p hlt h] at h3
      rcases Nat.lt_or_ge i k with h4 | h4
      · exact ih (i + 1) (by omega) k (by omega) h3
      · obtain rfl : k = i := by omega
        exact ⟨hlt, h⟩
/-- The byte at a place; 0: there is none. -/
def nx (s : ByteArray) (i : Nat) : Int := if h : i < s.size then s[i].toNat else 0
theorem nx_in {s : ByteArray} {i : Nat} (h : i < s.size) : nx s i = s[i].toNat := dif_pos h
theorem nx_out {s : ByteArray} {i : Nat} (h : ¬ i < s.size) : nx s i = 0 := dif_neg h
theorem nx_lt {s : ByteArray} {i : Nat} (h : nx s i ≠ 0) : i < s.size := by
  rcases Nat.lt_or_ge i s.size with h1 | h1
  · exact h1
  · exact absurd (nx_out (by omega)) h
theorem ext_one {s : ByteArray} {k : Nat} (h : k < s.size) : s.extract k (k + 1) = ⟨#[s[k]]⟩ := by
  apply ByteArray.ext
  rw [ByteArray.data_extract]
  apply Array.ext
  · simp; have : s.data.size = s.size := rfl; omega
  · intro i h1 h2
    simp at h2
    obtain rfl : i = 0 := by omega
    simp; rfl
theorem ext_size {s : ByteArray} {k e : Nat} (h : e ≤ s.size) : (s.extract k e).size = e - k := by simp; omega
theorem ext_head {s : ByteArray} {k e : Nat} {c : UInt8} (h : e ≤ s.size) (hk : k < e) (he : s.extract k e = ⟨#[c]⟩) : e = k + 1 ∧ s[k] = c := by
  have h1 := congrArg ByteArray.size he
  rw [ext_size h] at h1
  have h2 : e = k + 1 := by have : (⟨#[c]⟩ : ByteArray).size = 1 := rfl; omega
  subst h2
  rw [ext_one (by omega)] at he
  refine ⟨rfl, ?_⟩
  have := congrArg (fun x : ByteArray => x.data.toList) he
  simpa using this
end Go.Proofs.YtijdghplfhfpaaaDoor.H

/- Atoms with dots between: the scan and the pieces say the same. No program in sight. -/
namespace Go.Proofs.YtijdghplfhfpaaaDoor.H
def markList : List Int := [33, 35, 36, 37, 38, 39, 42, 43, 45, 47, 61, 63, 94, 95, 123, 124, 125, 126, 96]
def alnumB (c : Int) : Bool := (decide (97 ≤ c) && decide (c ≤ 122)) || (decide (65 ≤ c) && decide (c ≤ 90)) || (decide (48 ≤ c) && decide (c ≤ 57))
def atomB (c : Int) : Bool := alnumB c || markList.contains c
/-- The scan: is the byte ahead a dot? -/
def scanB : Bool → List UInt8 → Bool
  | last, [] => !last
  | last, c :: r => if c = 46 then !last && scanB true r else atomB c.toNat && scanB false r
def pieceB (p : List UInt8) : Bool := !p.isEmpty && p.all fun c => atomB c.toNat
def consHead (c : UInt8) : List (List UInt8) → List (List UInt8)
  | [] => [[c]]
  | p :: r => (c :: p) :: r
theorem split_eq (l : List UInt8) : Lib.split (46 :: l) [46] = [] :: Lib.split l [46] := by
  unfold Lib.split
  rw [Lib.count_cons_eq, Nat.add_comm 1, Lib.splitK]
  have hix : Lib.index (46 :: l) [46] = 0 := by rw [Lib.index]; simp [List.isPrefixOf]
  rw [hix]; simp
theorem split_ne (c : UInt8) (l : List UInt8) (h : c ≠ 46) : Lib.split (c :: l) [46] = consHead c (Lib.split l [46]) := by
  have hp : ([46] : List UInt8).isPrefixOf (c :: l) = false := by simp [List.isPrefixOf, Ne.symm h]
  have hix : Lib.index (c :: l) [46] = if Lib.index l [46] == -1 then -1 else Lib.index l [46] + 1 := by rw [Lib.index, hp]; simp
  unfold Lib.split
  rw [Lib.count_cons_ne c 46 l h]
  cases hk : Lib.count l [46] with
  | zero => rfl
  | succ k =>
    have hm : Lib.index l [46] ≠ -1 := fun e => by rw [Lib.count_miss e] at hk; cases hk
    have hge := Lib.index_ge l [46]
    obtain ⟨j, hj⟩ : ∃ j : Nat, Lib.index l [46] = j := ⟨(Lib.index l [46]).toNat, by omega⟩
    have hix' : Lib.index (c :: l) [46] = ((j + 1 : Nat) : Int) := by rw [hix, if_neg (fun e => hm (beq_iff_eq.1 e)), hj]; omega
    rw [Lib.splitK, Lib.splitK, hix', hj, if_neg (by first | (simp; done) | (simp; omega)), if_neg (by first | (simp; done) | (simp; omega))]
    simp [consHead]
theorem split_some (l : List UInt8) : ∃ p r, Lib.split l [46] = p :: r := by
  cases l with
  | nil => exact ⟨[], [], by simp [Lib.split, Lib.count_one, Lib.splitK]⟩
  | cons c l =>
    by_cases h : c = 46
    · subst h; exact ⟨_, _, split_eq l⟩
    · rw [split_ne c l h]
      cases Lib.split l [46] <;> exact ⟨_, _, rfl⟩
theorem split_len : ∀ l : List UInt8, ∀ q ∈ Lib.split l [46], q.length ≤ l.length
  | [] => by
    have e : Lib.split [] [46] = [[]] := by simp [Lib.split, Lib.count_one, Lib.splitK]
    rw [e]; simp
  | c :: l => by
    have ih := split_len l
    by_cases h : c = 46
    · subst h
      rw [split_eq]
      intro q hq
      rcases List.mem_cons.1 hq with rfl | hq
      · simp
      · have := ih q hq; simp; omega
    · obtain ⟨p, r, e⟩ := split_some l
      rw [split_ne c l h, e]
      rw [e] at ih
      intro q hq
      rcases List.mem_cons.1 hq with rfl | hq
      · have := ih p (by simp); simp; omega
      · have := ih q (by simp [hq]); simp; omega
theorem scan_pieces : ∀ l : List UInt8, (scanB true l = (Lib.split l [46]).all pieceB) ∧ ∀ p r, Lib.split l [46] = p :: r → scanB false l = ((p.all fun c => atomB c.toNat) && r.all pieceB)
  | [] => by
    have e : Lib.split [] [46] = [[]] := by simp [Lib.split, Lib.count_one, Lib.splitK]
    rw [e]
    refine ⟨by simp [scanB, pieceB], fun p r h => ?_⟩
    cases h
    simp [scanB]
  | c :: l => by
    obtain ⟨ih1, ih2⟩ := scan_pieces l
    by_cases h : c = 46
    · subst h
      rw [split_eq]
      refine ⟨by simp [scanB, pieceB], fun p r h => ?_⟩
      cases h
      simp [scanB, ih1]
    · obtain ⟨p, r, e⟩ := split_some l
      rw [split_ne c l h, e]
      have hf := ih2 p r e
      refine ⟨?_, fun p' r' h' => ?_⟩
      · simp [scanB, h, hf, consHead, pieceB, Bool.and_assoc]
      · cases h'
        simp [scanB, h, hf, Bool.and_assoc]
end Go.Proofs.YtijdghplfhfpaaaDoor.H

/- Lists of addresses: the reader's way through a text and the reference's way over its bits say the same. No program in sight. -/
namespace Go.Proofs.YtijdghplfhfpaaaDoor.H
set_option linter.unusedVariables false
set_option linter.unusedSimpArgs false
def blankB (c : Int) : Bool := decide (c = 32) || decide (c = 9)
def runB (c : Int) : Bool := atomB c || decide (c = 46)
/-- Behind something quoted, from a place in it on. -/
def qEnd (s : ByteArray) (i : Nat) : Option Nat :=
  if h : i < s.size then
    if s[i].toNat = 34 then some (i + 1)
    else if s[i].toNat = 92 then (if i + 1 < s.size then qEnd s (i + 2) else none)
    else qEnd s (i + 1)
  else none
termination_by s.size - i
theorem qEnd_gt (s : ByteArray) : ∀ n i k, s.size - i ≤ n → qEnd s i = some k → i < k ∧ k ≤ s.size := by
  intro n
  induction n with
  | zero => intro i k h1 h2; rw [qEnd, dif_neg (by omega)] at h2; cases h2
  | succ n ih =>
    intro i k h1 h2
    rw [qEnd] at h2
    split at h2
    · split at h2
      · cases h2; omega
      · split at h2
        · split at h2
          · have := ih _ _ (by omega) h2; omega
          · cases h2
        · have := ih _ _ (by omega) h2; omega
    · cases h2
section
variable (ok : ByteArray → ByteArray → Bool) (s : ByteArray)
/-- An address whose local part was read, up to a place. -/
def bareP (e : Nat) (loc : ByteArray) : Option (AAddress × Nat) :=
  if nx s e = 64 then
    if ok loc (s.extract (e + 1) (spanEnd runB s (e + 1))) then some (⟨loc, s.extract (e + 1) (spanEnd runB s (e + 1))⟩, spanEnd runB s (e + 1)) else none
  else none
def angP (j : Nat) : Option (AAddress × Nat) :=
  match bareP ok s (spanEnd runB s (j + 1)) (s.extract (j + 1) (spanEnd runB s (j + 1))) with
  | some (a, d) => if nx s d = 62 then some (a, d + 1) else none
  | none => none
/-- An address, perhaps with words ahead of it. -/
def addrP (i : Nat) (first : Bool) : Option (AAddress × Nat) :=
  if nx s (spanEnd blankB s i) = 34 then
    match qEnd s (spanEnd blankB s i + 1) with
    | some k => if i < k ∧ k ≤ s.size then addrP k false else none
    | none => none
  else if nx s (spanEnd blankB s i) = 60 then angP ok s (spanEnd blankB s i)
  else if first = true ∧ nx s (spanEnd runB s (spanEnd blankB s i)) = 64 then bareP ok s (spanEnd runB s (spanEnd blankB s i)) (s.extract (spanEnd blankB s i) (spanEnd runB s (spanEnd blankB s i)))
  else if spanEnd blankB s i < spanEnd runB s (spanEnd blankB s i) ∧ i < spanEnd runB s (spanEnd blankB s i) ∧ spanEnd runB s (spanEnd blankB s i) ≤ s.size then addrP (spanEnd runB s (spanEnd blankB s i)) false
  else none
termination_by s.size - i
decreasing_by all_goals omega
/-- The addresses of a list from a place on. -/
def listP (i : Nat) : Option (List AAddress) :=
  match addrP ok s i true with
  | some (a, j) =>
    if spanEnd blankB s j < s.size then
      if nx s (spanEnd blankB s j) = 44 ∧ i ≤ spanEnd blankB s j then (listP (spanEnd blankB s j + 1)).map (a :: ·) else none
    else some [a]
  | none => none
termination_by s.size - i
end
/-- A bit of a list. -/
abbrev Bit := ABit
def bitsP (s : ByteArray) (i : Nat) (ap : Bool) : Option (List Bit) :=
  if h : i < s.size then
    if blankB s[i].toNat then bitsP s (i + 1) true
    else if i < spanEnd runB s i ∧ spanEnd runB s i ≤ s.size then (bitsP s (spanEnd runB s i) false).map (⟨s.extract i (spanEnd runB s i), true, false, ap⟩ :: ·)
    else if s[i].toNat ≠ 34 then (bitsP s (i + 1) false).map (⟨s.extract i (i + 1), false, false, ap⟩ :: ·)
    else match qEnd s (i + 1) with
      | some k => if i < k ∧ k ≤ s.size then (bitsP s k false).map (⟨⟨#[]⟩, false, true, ap⟩ :: ·) else none
      | none => none
  else some []
termination_by s.size - i
def plainR (ok : ByteArray → ByteArray → Bool) : List Bit → Option (AAddress × List Bit)
  | b0 :: b1 :: b2 :: r => if b0.run = true ∧ b1.text = ⟨#[64]⟩ ∧ b2.run = true ∧ b1.apart = false ∧ b2.apart = false ∧ ok b0.text b2.text = true then some (⟨b0.text, b2.text⟩, r) else none
  | _ => none
def angleR (ok : ByteArray → ByteArray → Bool) : List Bit → Option (AAddress × List Bit)
  | [] => none
  | b :: r =>
    if b.run = true ∨ b.quoted = true then angleR ok r
    else if b.text = ⟨#[60]⟩ then
      match plainR ok r with
      | some (a, g :: r') => if (∀ c ∈ r.head?, c.apart = false) ∧ g.text = ⟨#[62]⟩ ∧ g.apart = false then some (a, r') else none
      | _ => none
    else none
def addrR (ok : ByteArray → ByteArray → Bool) (l : List Bit) : Option (AAddress × List Bit) :=
  match plainR ok l with
  | some x => some x
  | none => angleR ok l
theorem run_not : runB 32 = false ∧ runB 9 = false ∧ runB 34 = false ∧ runB 60 = false ∧ runB 62 = false ∧ runB 64 = false ∧ runB 44 = false ∧ runB 0 = false := by decide
theorem bits_end (s : ByteArray) (i : Nat) (ap : Bool) (h : ¬ i < s.size) : bitsP s i ap = some [] := by rw [bitsP, dif_neg h]
theorem bits_blank (s : ByteArray) (i : Nat) (ap : Bool) (h : i < s.size) (hb : blankB s[i].toNat = true) : bitsP s i ap = bitsP s (i + 1) true := by rw [bitsP, dif_pos h, if_pos hb]
theorem bits_run (s : ByteArray) (i : Nat) (ap : Bool) (h : i < spanEnd runB s i) (hs : i ≤ s.size) :
    bitsP s i ap = (bitsP s (spanEnd runB s i) false).map (⟨s.extract i (spanEnd runB s i), true, false, ap⟩ :: ·) := by
  have h2 := span_le runB s i hs
  obtain ⟨hi, hr⟩ := span_in runB s _ i rfl i (Nat.le_refl _) h
  have hb : ¬ blankB s[i].toNat = true := fun hb => by
    simp only [blankB, Bool.or_eq_true, decide_eq_true_eq] at hb
    rcases hb with hb | hb
    · rw [hb] at hr; exact absurd hr (by decide)
    · rw [hb] at hr; exact absurd hr (by decide)
  rw [bitsP, dif_pos hi, if_neg hb, if_pos ⟨h, h2⟩]
theorem bits_one (s : ByteArray) (i : Nat) (ap : Bool) (h : i < s.size) (hb : blankB s[i].toNat = false) (hr : runB s[i].toNat = false) (hq : s[i].toNat ≠ 34) :
    bitsP s i ap = (bitsP s (i + 1) false).map (⟨⟨#[s[i]]⟩, false, false, ap⟩ :: ·) := by
  rw [bitsP, dif_pos h, if_neg (by rw [hb]; decide), if_neg (by rw [spanEnd_no runB h hr]; omega), if_pos hq, ext_one h]
theorem bits_quoted (s : ByteArray) (i : Nat) (ap : Bool) (h : i < s.size) (hq : s[i].toNat = 34) :
    bitsP s i ap = (qEnd s (i + 1)).bind fun k => (bitsP s k false).map (⟨⟨#[]⟩, false, true, ap⟩ :: ·) := by
  have hr : runB s[i].toNat = false := by rw [hq]; decide
  rw [bitsP, dif_pos h, if_neg (by rw [hq]; decide), if_neg (by rw [spanEnd_no runB h hr]; omega), if_neg (by simpa using hq)]
  cases hk : qEnd s (i + 1) with
  | none => rfl
  | some k =>
    have := qEnd_gt s _ _ _ (Nat.le_refl _) hk
    simp only [Option.bind_some]
    rw [if_pos ⟨by omega, this.2⟩]
theorem bits_skip (s : ByteArray) : ∀ n i ap, s.size - i = n → i ≤ s.size → ∃ ap', bitsP s i ap = bitsP s (spanEnd blankB s i) ap' ∧ (spanEnd blankB s i = i → ap' = ap) ∧ (spanEnd blankB s i ≠ i → ap' = true) := by
  intro n
  induction n with
  | zero => intro i ap h1 h2; rw [spanEnd_end blankB (by omega)]; exact ⟨ap, rfl, fun _ => rfl, fun h => absurd rfl h⟩
  | succ n ih =>
    intro i ap h1 h2
    have hlt : i < s.size := by omega
    cases h : blankB s[i].toNat with
    | false => rw [spanEnd_no blankB hlt h]; exact ⟨ap, rfl, fun _ => rfl, fun h => absurd rfl h⟩
    | true =>
      obtain ⟨ap', h3, h4, h5⟩ := ih (i + 1) true (by omega) (by omega)
      have hge := span_ge blankB s (i + 1) (by omega)
      rw [spanEnd_yes blankB hlt h]
      refine ⟨ap', (bits_blank s i ap hlt h).trans h3, fun hh => by omega, fun _ => ?_⟩
      by_cases h6 : spanEnd blankB s (i + 1) = i + 1
      · exact h4 h6
      · exact h5 h6
/-- The first bit from a place on, where there is no blank: what is at the place. -/
theorem bits_cons (s : ByteArray) (i : Nat) (ap : Bool) (h : i < s.size) (hb : blankB s[i].toNat = false) :
    bitsP s i ap = none ∨ ∃ b r, bitsP s i ap = some (b :: r) ∧ b.apart = ap ∧ (∀ c : UInt8, runB c.toNat = false → c ≠ 34 → b.text = ⟨#[c]⟩ → s[i] = c) ∧ (b.run = true → runB s[i].toNat = true ∧ bitsP s (spanEnd runB s i) false = some r ∧ b.text = s.extract i (spanEnd runB s i)) := by
  cases hr : runB s[i].toNat with
  | true =>
    have hlt : i < spanEnd runB s i := by rw [spanEnd_yes runB h hr]; have := span_ge runB s (i + 1) (by omega); omega
    rw [bits_run s i ap hlt (by omega)]
    cases hx : bitsP s (spanEnd runB s i) false with
    | none => exact .inl rfl
    | some r =>
      refine .inr ⟨_, r, rfl, rfl, fun c hc _ he => ?_, fun _ => ⟨rfl, rfl, rfl⟩⟩
      obtain ⟨_, h2⟩ := ext_head (span_le runB s i (by omega)) hlt he
      rw [h2, hc] at hr; cases hr
  | false =>
    by_cases hq : s[i].toNat = 34
    · rw [bits_quoted s i ap h hq]
      cases hk : qEnd s (i + 1) with
      | none => exact .inl rfl
      | some k =>
        cases hx : bitsP s k false with
        | none => simp only [Option.bind_some, hx]; exact .inl rfl
        | some r =>
          simp only [Option.bind_some, hx]
          refine .inr ⟨_, r, rfl, rfl, fun c _ _ he => ?_, fun h => by cases h⟩
          have := congrArg ByteArray.size he
          cases this
    · rw [bits_one s i ap h hb hr hq]
      cases hx : bitsP s (i + 1) false with
      | none => exact .inl rfl
      | some r =>
        refine .inr ⟨_, r, rfl, rfl, fun c _ _ he => ?_, fun h => by cases h⟩
        have := congrArg (fun x : ByteArray => x.data.toList) he
        simpa using this
section
variable {ok : ByteArray → ByteArray → Bool} {s : ByteArray}
/-- An address without words. -/
theorem bare_some {j : Nat} {ap : Bool} {a : AAddress} {d : Nat} (hno : ∀ x, ok x ⟨#[]⟩ = false ∧ ok ⟨#[]⟩ x = false) (hj : j ≤ s.size) (h : bareP ok s (spanEnd runB s j) (s.extract j (spanEnd runB s j)) = some (a, d)) :
    j < d ∧ d ≤ s.size ∧ ∃ b0 b1 b2 : Bit, b0.apart = ap ∧ b0.run = true ∧ (∀ r, plainR ok (b0 :: b1 :: b2 :: r) = some (a, r)) ∧ bitsP s j ap = (bitsP s d false).map ([b0, b1, b2] ++ ·) := by
  have hr := run_not
  unfold bareP at h
  split at h
  · rename_i h64
    split at h
    · rename_i hok
      cases h
      have he := nx_lt (by rw [h64]; decide)
      rw [nx_in he] at h64
      have hle := span_ge runB s j hj
      have hd1 := span_ge runB s (spanEnd runB s j + 1) (by omega)
      have hd2 := span_le runB s (spanEnd runB s j + 1) (by omega)
      have hlt : j < spanEnd runB s j := by
        rcases Nat.lt_or_ge j (spanEnd runB s j) with h | h
        · exact h
        · rw [show spanEnd runB s j = j by omega] at hok
          rw [show s.extract j j = ⟨#[]⟩ by apply ByteArray.ext; simp] at hok
          rw [(hno _).2] at hok; cases hok
      have hlt2 : spanEnd runB s j + 1 < spanEnd runB s (spanEnd runB s j + 1) := by
        rcases Nat.lt_or_ge (spanEnd runB s j + 1) (spanEnd runB s (spanEnd runB s j + 1)) with h | h
        · exact h
        · rw [show spanEnd runB s (spanEnd runB s j + 1) = spanEnd runB s j + 1 by omega] at hok
          rw [show s.extract (spanEnd runB s j + 1) (spanEnd runB s j + 1) = ⟨#[]⟩ by apply ByteArray.ext; simp] at hok
          rw [(hno _).1] at hok; cases hok
      refine ⟨by omega, hd2, ⟨s.extract j (spanEnd runB s j), true, false, ap⟩, ⟨⟨#[64]⟩, false, false, false⟩, ⟨s.extract (spanEnd runB s j + 1) (spanEnd runB s (spanEnd runB s j + 1)), true, false, false⟩, rfl, rfl, ?_, ?_⟩
      · intro r
        simp only [plainR]
        rw [if_pos (by simp [hok])]
      · have hc : s[spanEnd runB s j] = 64 := by apply UInt8.toNat_inj.1; simpa using (by exact_mod_cast h64 : (s[spanEnd runB s j]).toNat = 64)
        have h1 : s[spanEnd runB s j].toNat = 64 := by rw [hc]; rfl
        rw [bits_run s j ap hlt hj, bits_one s _ false he (by rw [h1]; decide) (by rw [h1]; decide) (by rw [h1]; decide), bits_run s _ false hlt2 (by omega), hc]
        cases bitsP s (spanEnd runB s (spanEnd runB s j + 1)) false <;> rfl
    · cases h
  · cases h
theorem bits_apart {i : Nat} {b : Bit} {r : List Bit} (hi : i ≤ s.size) (h : bitsP s i false = some (b :: r)) (ha : b.apart = false) : ∃ hlt : i < s.size, blankB s[i].toNat = false := by
  rcases Nat.lt_or_ge i s.size with hlt | hge
  · refine ⟨hlt, ?_⟩
    cases hb : blankB s[i].toNat with
    | false => rfl
    | true =>
      exfalso
      obtain ⟨ap', h1, _, h3⟩ := bits_skip s _ i false rfl hi
      have hne : spanEnd blankB s i ≠ i := by rw [spanEnd_yes blankB hlt hb]; have := span_ge blankB s (i + 1) (by omega); omega
      obtain rfl := h3 hne
      rw [h1] at h
      have hle := span_le blankB s i hi
      rcases Nat.lt_or_ge (spanEnd blankB s i) s.size with h5 | h5
      · rcases bits_cons s _ true h5 (span_stop blankB s _ i rfl h5) with h6 | ⟨b', r', h6, h7, _⟩
        · rw [h6] at h; cases h
        · rw [h6] at h; cases h; rw [h7] at ha; cases ha
      · rw [bits_end s _ _ (by omega)] at h; cases h
  · rw [bits_end s _ _ (by omega)] at h; cases h
theorem toNat_of {c d : UInt8} (h : c = d) : c.toNat = d.toNat := by rw [h]
theorem plain_inv {j : Nat} {ap : Bool} {l r : List Bit} {a : AAddress} (hj : j ≤ s.size) (hb : ∀ h : j < s.size, blankB s[j].toNat = false) (hl : bitsP s j ap = some l) (h : plainR ok l = some (a, r)) :
    ∃ d, bareP ok s (spanEnd runB s j) (s.extract j (spanEnd runB s j)) = some (a, d) ∧ bitsP s d false = some r ∧ d ≤ s.size := by
  match l, h with
  | b0 :: b1 :: b2 :: r', h =>
    simp only [plainR] at h
    split at h
    · rename_i hc
      obtain ⟨h0, h1, h2, h3, h4, hok⟩ := hc
      cases h
      rcases Nat.lt_or_ge j s.size with hlt | hge
      · rcases bits_cons s j ap hlt (hb hlt) with h6 | ⟨b', r', h6, _, _, h7⟩
        · rw [h6] at hl; cases hl
        · rw [h6] at hl; cases hl
          obtain ⟨hr0, hbe, ht0⟩ := h7 h0
          have hle := span_le runB s j hj
          obtain ⟨hlt1, hb1⟩ := bits_apart hle hbe h3
          have hc1 : s[spanEnd runB s j] = 64 := by
            rcases bits_cons s _ false hlt1 hb1 with h6 | ⟨b', r', h6, _, h8, _⟩
            · rw [h6] at hbe; cases hbe
            · rw [h6] at hbe; cases hbe; exact h8 64 (by decide) (by decide) h1
          have hn1 := toNat_of hc1
          have hn1 : s[spanEnd runB s j].toNat = 64 := hn1
          rw [bits_one s _ false hlt1 hb1 (by rw [hn1]; decide) (by rw [hn1]; decide)] at hbe
          obtain ⟨l2, hl2, he2⟩ := Option.map_eq_some_iff.1 hbe
          cases he2
          obtain ⟨hlt2, hb2⟩ := bits_apart (by omega) hl2 h4
          rcases bits_cons s _ false hlt2 hb2 with h6 | ⟨b', r', h6, _, _, h8⟩
          · rw [h6] at hl2; cases hl2
          · rw [h6] at hl2; cases hl2
            obtain ⟨_, hbd, ht2⟩ := h8 h2
            refine ⟨spanEnd runB s (spanEnd runB s j + 1), ?_, hbd, span_le runB s _ (by omega)⟩
            unfold bareP
            rw [nx_in hlt1, hn1, if_pos (by rfl), ← ht0, ← ht2, if_pos hok]
      · rw [bits_end s _ _ (by omega)] at hl; cases hl
    · cases h
/-- What the two sides say of a place: the reader's answer o, the reference's way f over the bits. -/
def Agree (s : ByteArray) (i : Nat) (ap : Bool) (f : List Bit → Option (AAddress × List Bit)) (o : Option (AAddress × Nat)) : Prop :=
  match o with
  | some (a, j) => i < j ∧ j ≤ s.size ∧ ((bitsP s i ap = none ∧ bitsP s j false = none) ∨ ∃ l l', bitsP s i ap = some l ∧ bitsP s j false = some l' ∧ f l = some (a, l'))
  | none => ∀ l, bitsP s i ap = some l → f l = none
theorem agree_step {i k : Nat} {ap ap' : Bool} {f : List Bit → Option (AAddress × List Bit)} {o : Option (AAddress × Nat)} (b : Bit) (hik : i ≤ k) (h : bitsP s i ap = (bitsP s k ap').map (b :: ·)) (hf : ∀ l, f (b :: l) = f l) (H : Agree s k ap' f o) : Agree s i ap f o := by
  match o, H with
  | some (a, j), H =>
    obtain ⟨h1, h2, h3⟩ := H
    refine ⟨by omega, h2, ?_⟩
    rcases h3 with ⟨h4, h5⟩ | ⟨l, l', h4, h5, h6⟩
    · exact .inl ⟨by rw [h, h4]; rfl, h5⟩
    · exact .inr ⟨b :: l, l', by rw [h, h4]; rfl, h5, by rw [hf]; exact h6⟩
  | none, H =>
    intro l hl
    rw [h] at hl
    obtain ⟨l2, h2, rfl⟩ := Option.map_eq_some_iff.1 hl
    rw [hf]; exact H _ h2
theorem agree_same {i k : Nat} {ap ap' : Bool} {f : List Bit → Option (AAddress × List Bit)} {o : Option (AAddress × Nat)} (hik : i ≤ k) (h : bitsP s i ap = bitsP s k ap') (H : Agree s k ap' f o) : Agree s i ap f o := by
  match o, H with
  | some (a, j), H =>
    obtain ⟨h1, h2, h3⟩ := H
    exact ⟨by omega, h2, by rw [h]; exact h3⟩
  | none, H => intro l hl; exact H l (h ▸ hl)
theorem ang_agree {j : Nat} (ap : Bool) (hno : ∀ x, ok x ⟨#[]⟩ = false ∧ ok ⟨#[]⟩ x = false) (hj : j < s.size) (hc : s[j].toNat = 60) : Agree s j ap (angleR ok) (angP ok s j) := by
  have h1 : bitsP s j ap = (bitsP s (j + 1) false).map (⟨⟨#[60]⟩, false, false, ap⟩ :: ·) := by
    rw [bits_one s j ap hj (by rw [hc]; decide) (by rw [hc]; decide) (by rw [hc]; decide), show s[j] = 60 from UInt8.toNat_inj.1 hc]
  have hf : ∀ l, angleR ok (⟨⟨#[60]⟩, false, false, ap⟩ :: l) = match plainR ok l with
      | some (a, g :: r') => if (∀ c ∈ l.head?, c.apart = false) ∧ g.text = ⟨#[62]⟩ ∧ g.apart = false then some (a, r') else none
      | _ => none := fun l => by rw [angleR, if_neg (by simp), if_pos rfl]
  have hnone : angP ok s j = none → ∀ l, bitsP s j ap = some l → angleR ok l = none := by
    intro hn l hl
    rw [h1] at hl
    obtain ⟨l1, hl1, rfl⟩ := Option.map_eq_some_iff.1 hl
    rw [hf]
    split
    · rename_i a g r' hp
      split
      · rename_i hcond
        exfalso
        obtain ⟨hh, hg, hga⟩ := hcond
        have hb : ∀ h : j + 1 < s.size, blankB s[j + 1].toNat = false := by
          match l1, hp with
          | b0 :: l1', hp => exact fun _ => (bits_apart (by omega) hl1 (hh b0 (by simp))).2
        obtain ⟨d, hd, hbd, hds⟩ := plain_inv (by omega) hb hl1 hp
        obtain ⟨hlt, hbb⟩ := bits_apart hds hbd hga
        have hcd : s[d] = 62 := by
          rcases bits_cons s _ false hlt hbb with h6 | ⟨b', r'', h6, _, h8, _⟩
          · rw [h6] at hbd; cases hbd
          · rw [h6] at hbd; cases hbd; exact h8 62 (by decide) (by decide) hg
        unfold angP at hn
        rw [hd] at hn
        simp only at hn
        rw [if_pos (by rw [nx_in hlt, hcd]; rfl)] at hn
        cases hn
      · rfl
    · rfl
  cases ho : angP ok s j with
  | none => exact hnone ho
  | some x =>
    obtain ⟨a, j'⟩ := x
    unfold angP at ho
    split at ho
    · rename_i a' d hd
      split at ho
      · rename_i h62
        cases ho
        obtain ⟨g1, g2, b0, b1, b2, ha0, hr0, hp, hbb⟩ := bare_some (ap := false) hno (by omega) hd
        have hlt := nx_lt (s := s) (i := d) (by rw [h62]; decide)
        rw [nx_in hlt] at h62
        have h62' : s[d].toNat = 62 := by exact_mod_cast h62
        have h2 : bitsP s d false = (bitsP s (d + 1) false).map (⟨⟨#[62]⟩, false, false, false⟩ :: ·) := by
          rw [bits_one s d false hlt (by rw [h62']; decide) (by rw [h62']; decide) (by rw [h62']; decide), show s[d] = 62 from UInt8.toNat_inj.1 h62']
        refine ⟨by omega, by omega, ?_⟩
        rw [h1, hbb, h2]
        cases hx : bitsP s (d + 1) false with
        | none => exact .inl ⟨rfl, rfl⟩
        | some l' =>
          refine .inr ⟨_, l', rfl, rfl, ?_⟩
          rw [hf]
          simp only [List.cons_append, List.nil_append, hp]
          rw [if_pos ⟨by simpa using ha0, by trivial, by trivial⟩]
      · cases ho
    · cases ho
theorem angle_agree (hno : ∀ x, ok x ⟨#[]⟩ = false ∧ ok ⟨#[]⟩ x = false) : ∀ n i ap, s.size - i ≤ n → i ≤ s.size → Agree s i ap (angleR ok) (addrP ok s i false) := by
  intro n
  induction n with
  | zero =>
    intro i ap h1 h2
    have hne : ¬ i < s.size := by omega
    have e : addrP ok s i false = none := by
      rw [addrP]
      simp only [spanEnd_end blankB hne, nx_out hne, spanEnd_end runB hne]
      simp
    rw [e]
    intro l hl
    rw [bits_end s i ap hne] at hl
    cases hl; rfl
  | succ n ih =>
    intro i ap h1 h2
    obtain ⟨ap', hsk, _, _⟩ := bits_skip s _ i ap rfl h2
    have hge := span_ge blankB s i h2
    have hle := span_le blankB s i h2
    refine agree_same hge hsk ?_
    rw [addrP]
    generalize hj : spanEnd blankB s i = j at *
    rcases Nat.lt_or_ge j s.size with hlt | hge2
    · have hnb : blankB s[j].toNat = false := by subst hj; exact span_stop blankB s _ i rfl hlt
      rw [nx_in hlt]
      by_cases hq : s[j].toNat = 34
      · rw [if_pos (by omega)]
        have hb := bits_quoted s j ap' hlt hq
        cases hk : qEnd s (j + 1) with
        | none =>
          intro l hl
          rw [hb, hk] at hl; cases hl
        | some k =>
          have hgt := qEnd_gt s _ _ _ (Nat.le_refl _) hk
          simp only
          rw [if_pos ⟨by omega, hgt.2⟩]
          rw [hk] at hb
          simp only [Option.bind_some] at hb
          exact agree_step _ (by omega) hb (fun l => by rw [angleR, if_pos (.inr rfl)]) (ih k false (by omega) hgt.2)
      · rw [if_neg (by omega)]
        by_cases h60 : s[j].toNat = 60
        · rw [if_pos (by omega)]
          exact ang_agree ap' hno hlt h60
        · rw [if_neg (by omega), if_neg (by simp)]
          cases hr : runB s[j].toNat with
          | true =>
            have hje : j < spanEnd runB s j := by rw [spanEnd_yes runB hlt hr]; have := span_ge runB s (j + 1) (by omega); omega
            have hes := span_le runB s j hle
            rw [if_pos ⟨hje, by omega, hes⟩]
            exact agree_step _ (by omega) (bits_run s j ap' hje hle) (fun l => by rw [angleR, if_pos (.inl rfl)]) (ih _ false (by omega) hes)
          | false =>
            rw [if_neg (by rw [spanEnd_no runB hlt hr]; omega)]
            intro l hl
            rw [bits_one s j ap' hlt hnb hr hq] at hl
            obtain ⟨l1, hl1, rfl⟩ := Option.map_eq_some_iff.1 hl
            rw [angleR, if_neg (by simp), if_neg]
            intro he
            have := congrArg (fun x : ByteArray => x.data.toList) he
            have h6 : s[j] = 60 := by simpa using this
            exact h60 (by rw [h6]; rfl)
    · rw [nx_out (by omega), spanEnd_end runB (by omega)]
      rw [if_neg (by omega), if_neg (by omega), if_neg (by simp), if_neg (by omega)]
      intro l hl
      rw [bits_end s j ap' (by omega)] at hl
      cases hl; rfl
theorem addr_agree (hno : ∀ x, ok x ⟨#[]⟩ = false ∧ ok ⟨#[]⟩ x = false) (i : Nat) (ap : Bool) (h2 : i ≤ s.size) : Agree s i ap (addrR ok) (addrP ok s i true) := by
  have HA := fun ap => angle_agree (s := s) hno _ i ap (Nat.le_refl _) h2
  obtain ⟨ap', hsk, _, _⟩ := bits_skip s _ i ap rfl h2
  have hge := span_ge blankB s i h2
  have hle := span_le blankB s i h2
  have hnb : ∀ h : spanEnd blankB s i < s.size, blankB s[spanEnd blankB s i].toNat = false := fun h => span_stop blankB s _ i rfl h
  by_cases hcase : nx s (spanEnd blankB s i) ≠ 34 ∧ nx s (spanEnd blankB s i) ≠ 60 ∧ nx s (spanEnd runB s (spanEnd blankB s i)) = 64
  · obtain ⟨c1, c2, c3⟩ := hcase
    refine agree_same hge hsk ?_
    rw [addrP, if_neg c1, if_neg c2, if_pos ⟨rfl, c3⟩]
    generalize hj : spanEnd blankB s i = j at *
    cases hb : bareP ok s (spanEnd runB s j) (s.extract j (spanEnd runB s j)) with
    | some x =>
      obtain ⟨a, d⟩ := x
      obtain ⟨g1, g2, b0, b1, b2, ha0, hr0, hp, hbb⟩ := bare_some (ap := ap') hno hle hb
      refine ⟨g1, g2, ?_⟩
      rw [hbb]
      cases hx : bitsP s d false with
      | none => exact .inl ⟨rfl, rfl⟩
      | some l' =>
        refine .inr ⟨_, l', rfl, rfl, ?_⟩
        simp only [List.cons_append, List.nil_append, addrR, hp]
    | none =>
      intro l hl
      have hp : plainR ok l = none := by
        cases hp : plainR ok l with
        | none => rfl
        | some x =>
          obtain ⟨d, hd, _⟩ := plain_inv hle hnb hl (r := x.2) (a := x.1) hp
          rw [hb] at hd; cases hd
      unfold addrR
      rw [hp]
      simp only
      have helt := nx_lt (s := s) (i := spanEnd runB s j) (by rw [c3]; decide)
      have h64 : s[spanEnd runB s j].toNat = 64 := by rw [nx_in helt] at c3; exact_mod_cast c3
      have hone : ∀ ap l, bitsP s (spanEnd runB s j) ap = some l → angleR ok l = none := fun ap l hl => by
        rw [bits_one s _ ap helt (by rw [h64]; decide) (by rw [h64]; decide) (by rw [h64]; decide)] at hl
        obtain ⟨l1, hl1, rfl⟩ := Option.map_eq_some_iff.1 hl
        rw [angleR, if_neg (by simp), if_neg]
        intro he
        have := congrArg (fun x : ByteArray => x.data.toList) he
        have h6 : s[spanEnd runB s j] = 60 := by simpa using this
        rw [h6] at h64; exact absurd h64 (by decide)
      have hje := span_ge runB s j hle
      rcases Nat.lt_or_ge j (spanEnd runB s j) with hlt | hge3
      · rw [bits_run s j ap' hlt hle] at hl
        obtain ⟨l1, hl1, rfl⟩ := Option.map_eq_some_iff.1 hl
        rw [angleR, if_pos (.inl rfl)]
        exact hone _ _ hl1
      · rw [show spanEnd runB s j = j by omega] at hone
        exact hone _ _ hl
  · have hsame : addrP ok s i true = addrP ok s i false := by
      rw [addrP.eq_1 ok s i true, addrP.eq_1 ok s i false]
      by_cases c1 : nx s (spanEnd blankB s i) = 34
      · rw [if_pos c1, if_pos c1]
      · rw [if_neg c1, if_neg c1]
        by_cases c2 : nx s (spanEnd blankB s i) = 60
        · rw [if_pos c2, if_pos c2]
        · rw [if_neg c2, if_neg c2, if_neg (fun h => hcase ⟨c1, c2, h.2⟩), if_neg (c := false = true ∧ _) (by simp)]
    rw [hsame]
    have hplain : ∀ l, bitsP s i ap = some l → plainR ok l = none := fun l hl => by
      cases hp : plainR ok l with
      | none => rfl
      | some x =>
        rw [hsk] at hl
        obtain ⟨d, hd, _⟩ := plain_inv hle hnb hl (r := x.2) (a := x.1) hp
        exfalso
        have hd' := hd
        unfold bareP at hd
        split at hd
        · rename_i c3
          refine hcase ⟨fun c1 => ?_, fun c2 => ?_, c3⟩
          · have hlt := nx_lt (s := s) (i := spanEnd blankB s i) (by rw [c1]; decide)
            rw [nx_in hlt] at c1
            rw [spanEnd_no runB hlt (by rw [show (s[spanEnd blankB s i].toNat : Int) = 34 from c1]; decide), nx_in hlt, c1] at c3
            cases c3
          · have hlt := nx_lt (s := s) (i := spanEnd blankB s i) (by rw [c2]; decide)
            rw [nx_in hlt] at c2
            rw [spanEnd_no runB hlt (by rw [show (s[spanEnd blankB s i].toNat : Int) = 60 from c2]; decide), nx_in hlt, c2] at c3
            cases c3
        · cases hd
    have hA := HA ap
    generalize addrP ok s i false = o at *
    match o, hA with
    | some (a, j), hA =>
      obtain ⟨g1, g2, g3⟩ := hA
      refine ⟨g1, g2, ?_⟩
      rcases g3 with g3 | ⟨l, l', g3, g4, g5⟩
      · exact .inl g3
      · refine .inr ⟨l, l', g3, g4, ?_⟩
        unfold addrR
        rw [hplain l g3]
        exact g5
    | none, hA =>
      intro l hl
      unfold addrR
      rw [hplain l hl]
      exact hA l hl
end
end Go.Proofs.YtijdghplfhfpaaaDoor.H

/- A reader's block: a text and a place in it. -/
namespace Go.Proofs.YtijdghplfhfpaaaDoor.H
open Go.RowKit Go.Proofs.YtijdghplfhfpaaaDoorW.PrintWords Go.Proofs.YtijdghplfhfpaaaDoorW.PrintLast Go.Proofs.YtijdghplfhfpaaaDoor.U
set_option linter.unusedVariables false
set_option linter.unusedSimpArgs false
/-- Block b holds a text and a place in it. -/
structure Cur (w : World) (b : Nat) (s : ByteArray) (i : Nat) : Prop where
  c0 : w.cell? ⟨b, 0, none⟩ = some (.string s)
  c1 : w.cell? ⟨b, 1, none⟩ = some (.int .i64 i)
  f0 : w.frozen? ⟨b, 0, none⟩ = false
  f1 : w.frozen? ⟨b, 1, none⟩ = false
  lt : b < w.heap.size
theorem Cur.below {w w1 : World} {b B : Nat} {s : ByteArray} {i : Nat} (h : Cur w b s i) (hb : Below B w w1) (hB : b < B) : Cur w1 b s i :=
  ⟨(hb.cell (p := ⟨b, 0, none⟩) hB).trans h.c0, (hb.cell (p := ⟨b, 1, none⟩) hB).trans h.c1, (hb.frozen (p := ⟨b, 0, none⟩) hB).trans h.f0, (hb.frozen (p := ⟨b, 1, none⟩) hB).trans h.f1, Nat.lt_of_lt_of_le h.lt hb.size⟩
theorem Cur.kept {w w1 : World} {b : Nat} {row : Option Nat} {s : ByteArray} {i : Nat} (h : Cur w b s i) (hg : w.grownBy w1 row) (hne : some b ≠ row) : Cur w1 b s i :=
  ⟨(hg.cell_far ⟨b, 0, none⟩ h.lt hne).trans h.c0, (hg.cell_far ⟨b, 1, none⟩ h.lt hne).trans h.c1, (hg.frozen_far ⟨b, 0, none⟩ h.lt hne).trans h.f0, (hg.frozen_far ⟨b, 1, none⟩ h.lt hne).trans h.f1, Nat.lt_of_lt_of_le h.lt hg.size⟩
theorem Cur.drawN {w : World} {b : Nat} {s : ByteArray} {i : Nat} (h : Cur w b s i) (q : Nat) : Cur (w.drewN q) b s i := ⟨by simpa using h.c0, by simpa using h.c1, by simpa using h.f0, by simpa using h.f1, by simpa using h.lt⟩
theorem Cur.drew {w : World} {b : Nat} {s : ByteArray} {i : Nat} (h : Cur w b s i) : Cur w.drew b s i := ⟨by simpa using h.c0, by simpa using h.c1, by simpa using h.f0, by simpa using h.f1, by simpa using h.lt⟩
theorem Cur.set {w : World} {b : Nat} {s : ByteArray} {i : Nat} (h : Cur w b s i) (k : Nat) : Cur (w.setCell ⟨b, 1, none⟩ (.int .i64 k)) b s k := by
  refine ⟨?_, World.cell?_setCell_same _ _ _ h.c1, ?_, ?_, by simpa using h.lt⟩
  · rw [World.cell?_setCell_other _ _ _ _ (by simp)]; exact h.c0
  · simpa using h.f0
  · simpa using h.f1
/-- A block that is made so. -/
theorem Cur.made (w : World) (s : ByteArray) (i t : Nat) : Cur (w.alloc (.cells #[.string s, .int .i64 i] t)) w.heap.size s i := ⟨by simp, by simp, by simp, by simp, by simp⟩
/-- The place that the block holds. -/
def placeOf (w : World) (b : Nat) : Nat := match w.cell? ⟨b, 1, none⟩ with | some (.int _ m) => m.toNat | _ => 0
theorem Cur.place {w : World} {b : Nat} {s : ByteArray} {i : Nat} (h : Cur w b s i) : placeOf w b = i := by simp [placeOf, h.c1]
theorem grown_drawN {w w1 : World} {row : Option Nat} (h : w.grownBy w1 row) (q : Nat) : w.grownBy (w1.drewN q) row := ⟨h.os, h.tape, h.output, h.size, h.block⟩
theorem grown_drew {w w1 : World} {row : Option Nat} (h : w.grownBy w1 row) : w.grownBy w1.drew row := ⟨h.os, h.tape, h.output, h.size, h.block⟩
theorem grown_set {w w1 : World} {b : Nat} (h : w.grownBy w1 (some b)) (i : Nat) (v : Value) : w.grownBy (w1.setCell ⟨b, i, none⟩ v) (some b) := Lib.grownBy_setB h i v
theorem grown_trans {w w1 w2 : World} {row : Option Nat} (h : w.grownBy w1 row) (k : w1.grownBy w2 row) : w.grownBy w2 row :=
  ⟨k.os.trans h.os, k.tape.trans h.tape, k.output.trans h.output, Nat.le_trans h.size k.size, fun i hi hn => (k.block i (Nat.lt_of_lt_of_le hi h.size) hn).trans (h.block i hi hn)⟩
theorem bcellB {B : Nat} {W w1 : World} (hb : Below B W w1) : (∀ b o, b < B → w1.cell? ⟨b, o, none⟩ = W.cell? ⟨b, o, none⟩) ∧ (∀ b o, b < B → w1.frozen? ⟨b, o, none⟩ = W.frozen? ⟨b, o, none⟩) :=
  ⟨fun b o h => hb.cell (p := ⟨b, o, none⟩) h, fun b o h => hb.frozen (p := ⟨b, o, none⟩) h⟩
theorem cell_below {B : Nat} {w w1 : World} {b o : Nat} {v : Value} (hb : Below B w w1) (h : w.cell? ⟨b, o, none⟩ = some v) (hp : b < B) : w1.cell? ⟨b, o, none⟩ = some v := (hb.cell (p := ⟨b, o, none⟩) hp).trans h
theorem quiet_eq {P : Program} {f : FuncId} {args : Array Value} {w : World} {n : Nat} {v : Value} (h : Calls P f args (w.drewN n) fun e w' => e = .returned v ∧ w.drewN n = w') : Calls P f args (w.drewN n) fun e w' => e = .returned v ∧ ∃ m, w' = w.drewN m :=
  h.mono fun e w' ⟨he, hw⟩ => ⟨he, n, hw.symm⟩
end Go.Proofs.YtijdghplfhfpaaaDoor.H

/- who.Check and the reference's AddressFault: the walks. -/
namespace Go.Proofs.YtijdghplfhfpaaaDoor.H
open Go.RowKit Go.Proofs.YtijdghplfhfpaaaDoorW.PrintWords Go.Proofs.YtijdghplfhfpaaaDoorW.PrintLast Go.Proofs.YtijdghplfhfpaaaDoor.U
set_option linter.unusedVariables false
set_option linter.unusedSimpArgs false
theorem marks_index (c : Int) (h0 : 0 ≤ c) (h1 : c ≤ 255) : (0 ≤ Lib.indexByte [33, 35, 36, 37, 38, 39, 42, 43, 45, 47, 61, 63, 94, 95, 123, 124, 125, 126, 96] c.toNat.toUInt8) ↔ markList.contains c = true := by
  have h : ∀ x : Fin 256, decide (0 ≤ Lib.indexByte [33, 35, 36, 37, 38, 39, 42, 43, 45, 47, 61, 63, 94, 95, 123, 124, 125, 126, 96] x.val.toUInt8) = markList.contains (x.val : Int) := by decide +kernel
  have := h ⟨c.toNat, by omega⟩
  have e : ((c.toNat : Nat) : Int) = c := by omega
  simp only [e] at this
  rw [← this, decide_eq_true_eq]
theorem alnum_cases (c : Int) : (alnumB c = true ∧ ((97 ≤ c ∧ c ≤ 122) ∨ (65 ≤ c ∧ c ≤ 90) ∨ (48 ≤ c ∧ c ≤ 57))) ∨ (alnumB c = false ∧ (c < 48 ∨ (57 < c ∧ c < 65) ∨ (90 < c ∧ c < 97) ∨ 122 < c)) := by
  rcases (by omega : (97 ≤ c ∧ c ≤ 122) ∨ (65 ≤ c ∧ c ≤ 90) ∨ (48 ≤ c ∧ c ≤ 57) ∨ (c < 48 ∨ (57 < c ∧ c < 65) ∨ (90 < c ∧ c < 97) ∨ 122 < c)) with h | h | h | h
  · exact .inl ⟨by simp [alnumB, h], .inl h⟩
  · exact .inl ⟨by simp [alnumB, h], .inr (.inl h)⟩
  · exact .inl ⟨by simp [alnumB, h], .inr (.inr h)⟩
  · exact .inr ⟨by simp [alnumB]; omega, h⟩
set_option maxHeartbeats 1000000 in
set_option maxRecDepth 100000 in
theorem atom_calls (c : Int) (w : World) (h0 : 0 ≤ c) (h1 : c ≤ 255) : Calls Tryd.prog 192 #[.int .u8 c] w fun e w' => e = .returned (.bool (atomB c)) ∧ w = w' := by
  have HI := fun w => Tryd.strings_IndexByte ⟨#[33, 35, 36, 37, 38, 39, 42, 43, 45, 47, 61, 63, 94, 95, 123, 124, 125, 126, 96]⟩ c w
  have hm := marks_index c h0 h1
  have hb : (⟨#[33, 35, 36, 37, 38, 39, 42, 43, 45, 47, 61, 63, 94, 95, 123, 124, 125, 126, 96]⟩ : ByteArray).data.toList = [33, 35, 36, 37, 38, 39, 42, 43, 45, 47, 61, 63, 94, 95, 123, 124, 125, 126, 96] := rfl
  rw [hb] at HI
  generalize Lib.indexByte [33, 35, 36, 37, 38, 39, 42, 43, 45, 47, 61, 63, 94, 95, 123, 124, 125, 126, 96] c.toNat.toUInt8 = j at HI hm
  have HI := Lib.hid HI
  clear hb
  rcases alnum_cases c with ⟨e, h⟩ | ⟨e, h⟩
  · rw [show atomB c = true by rw [atomB, e]; rfl]
    clear e hm
    rcases h with h | h | h
    all_goals
      go_enter Tryd.func192, Tryd.ntmps192
      go_wp2
      go_ret
      exact ⟨(by first | rfl | (simp; done) | (simp [*]; done) | (rw [if_pos (by omega)]; first | rfl | (simp; done)) | (rw [if_neg (by omega)]; first | rfl | (simp; done)) | (simp; omega)), rfl⟩
  · cases hc : markList.contains c with
    | true =>
      rw [show atomB c = true by rw [atomB, e, hc]; rfl]
      have hj := hm.2 hc
      clear e hc hm
      rcases h with h | h | h | h
      all_goals
        go_enter Tryd.func192, Tryd.ntmps192
        go_wp2_with (go_at_call 205; refine (HI.out _).mono ?_; rintro e w2 ⟨rfl, rfl⟩)
        go_ret
        exact ⟨(by first | rfl | (simp; done) | (simp [*]; done) | (rw [if_pos (by omega)]; first | rfl | (simp; done)) | (rw [if_neg (by omega)]; first | rfl | (simp; done)) | (simp; omega)), rfl⟩
    | false =>
      rw [show atomB c = false by rw [atomB, e, hc]; rfl]
      have hj : ¬ 0 ≤ j := fun h => by rw [hm.1 h] at hc; cases hc
      clear e hc hm
      rcases h with h | h | h | h
      all_goals
        go_enter Tryd.func192, Tryd.ntmps192
        go_wp2_with (go_at_call 205; refine (HI.out _).mono ?_; rintro e w2 ⟨rfl, rfl⟩)
        go_ret
        exact ⟨(by first | rfl | (simp; done) | (simp [*]; done) | (rw [if_pos (by omega)]; first | rfl | (simp; done)) | (rw [if_neg (by omega)]; first | rfl | (simp; done)) | (simp; omega)), rfl⟩
/-- A literal row of numbers. -/
theorem lit_ints (k : IntKind) (l : List Int) (w : World) (e : Nat) (h63 : l.length ≤ 9223372036854775807) : Kd.C (Kd.int k) (w.alloc (.cells (l.map fun x => Value.int k x).toArray e)) (some ⟨w.heap.size, 0, none⟩) l.length l := by
  refine ⟨rfl, h63, fun _ => ⟨_, rfl, fun j x hj => ⟨[.int k x], rfl, rfl, fun i u hi => ?_⟩⟩⟩
  match i, hi with
  | 0, hi =>
    obtain rfl : Value.int k x = u := by simpa using hi
    rw [show j * (Kd.int k).sz + 0 = j from Nat.mul_one j, Go.WideShapes.add_plain, Nat.zero_add]
    simp [hj]
  | i + 1, hi => simp at hi
set_option maxHeartbeats 1000000 in
set_option maxRecDepth 100000 in
theorem atomByte_calls (c : Int) (w : World) (h0 : 0 ≤ c) (h1 : c ≤ 255) : Calls Tryd.prog 189 #[.int .u8 c] w fun e w' => e = .returned (.bool (atomB c)) ∧ Below w.heap.size w w' := by
  rcases alnum_cases c with ⟨e, h⟩ | ⟨e, h⟩
  · rw [show atomB c = true by rw [atomB, e]; rfl]
    clear e
    rcases h with h | h | h
    all_goals
      go_enter Tryd.func189, Tryd.ntmps189
      go_wp2_with (go_at_call 52; first | (refine (in_yes _ _ _ _ (by omega) (by omega)).mono ?_; rintro e w' ⟨rfl, rfl⟩) | (refine (in_no _ _ _ _ (by omega)).mono ?_; rintro e w' ⟨rfl, rfl⟩))
      go_ret
      exact ⟨(by first | rfl | (simp; done) | (simp [*]; done) | (rw [if_pos (by omega)]; first | rfl | (simp; done)) | (rw [if_neg (by omega)]; first | rfl | (simp; done)) | (simp; omega)), (by repeat (first | exact Below.refl _ _ | apply below_alloc | apply pw_below_drewN | apply below_drew1 | (refine Below.setCell ?_ (by first | (simp; done) | (simp; omega) | omega) _) ))⟩
  · rw [show atomB c = markList.contains c by rw [atomB, e]; rfl]
    clear e
    have hL := lit_ints .u8 markList w 5 (by decide)
    have hlen : markList.length = 19 := rfl
    have hmem : ∀ k : Nat, k < 19 → rd markList k = c → markList.contains c = true := fun k hk hc => by
      rw [← hc, rd, Int.toNat_natCast, List.getD_eq_getElem?_getD, List.getElem?_eq_getElem (by rw [hlen]; exact hk)]
      simp
    have hnot : (∀ k : Nat, k < 19 → rd markList k ≠ c) → markList.contains c = false := fun h => by
      rw [← Bool.not_eq_true]
      intro hc
      obtain ⟨i, hi, hx⟩ := List.mem_iff_getElem.1 (List.contains_iff_mem.1 hc)
      refine h i hi ?_
      rw [rd, Int.toNat_natCast, List.getD_eq_getElem?_getD, List.getElem?_eq_getElem hi]
      exact hx
    have H := Lib.hid (And.intro hL (And.intro hmem hnot))
    generalize markList.contains c = r at *
    clear hL hmem hnot
    rcases h with h | h | h | h
    all_goals
      go_enter Tryd.func189, Tryd.ntmps189
      go_wp2_with (go_at_call 52; first | (refine (in_yes _ _ _ _ (by omega) (by omega)).mono ?_; rintro e w' ⟨rfl, rfl⟩) | (refine (in_no _ _ _ _ (by omega)).mono ?_; rintro e w' ⟨rfl, rfl⟩))
      go_loopw [4] (fun i wr => ∃ k : Nat, k ≤ 19 ∧ i = .int .i64 k ∧ (∀ j, j < k → rd markList j ≠ c) ∧ Below (w.heap.size + 1) (w.alloc (.cells (markList.map fun x => Value.int .u8 x).toArray 5)) wr) (fun i _ => 19 - (intOf i).toNat)
      case atStart => exact ⟨0, Nat.zero_le _, rfl, fun j hj => absurd hj (Nat.not_lt_zero _), Below.refl _ _⟩
      case round =>
        obtain ⟨k, hk, rfl, hne, hB⟩ := hrel
        have hne := Lib.hid hne
        by_cases hlt : k < 19
        · have hC := Kd.C_below H.out.1 (by simpa using hB)
          obtain ⟨ad, e1, hx⟩ := int_at hC k (by rw [hlen]; exact hlt)
          obtain rfl := (Option.some.inj e1).symm
          rw [Go.WideShapes.add_plain, Nat.zero_add] at hx
          have i1 : (k : Int) < (19 : Int) := by omega
          have hm := H.out.2.1 k hlt
          have hs : rd markList k ≠ c → ∀ j, j < k + 1 → rd markList j ≠ c := fun h j hj => by
            rcases Nat.lt_or_ge j k with h' | h'
            · exact hne.out j h'
            · obtain rfl : j = k := by omega
              exact h
          have HS := Lib.hid (And.intro hm hs)
          clear hm hs hne H
          generalize rd markList k = v at *
          by_cases hv : v = c
          · subst hv
            have hr := HS.out.1 rfl
            subst hr
            go_wp2
            go_ret
            exact ⟨(by first | rfl | (simp; done) | (simp [*]; done) | (rw [if_pos (by omega)]; first | rfl | (simp; done)) | (rw [if_neg (by omega)]; first | rfl | (simp; done)) | (simp; omega)), (by repeat (first | exact Below.refl _ _ | apply below_alloc | apply pw_below_drewN | apply below_drew1 | (refine Below.setCell ?_ (by first | (simp; done) | (simp; omega) | omega) _) | (refine Below.trans ?_ (Below.mono hB (by first | (simp; done) | (simp; omega) | omega)))))⟩
          · have q : (v == c) = false := by simpa using hv
            go_wp2
            go_roundw
            case rel => exact ⟨k + 1, by omega, by go_num, HS.out.2 hv, hB⟩
            case measure => simp [intOf]; omega
        · obtain rfl : k = 19 := by omega
          have hr := H.out.2.2 hne.out
          subst hr
          go_wp2
          go_ret
          exact ⟨(by first | rfl | (simp; done) | (simp [*]; done) | (rw [if_pos (by omega)]; first | rfl | (simp; done)) | (rw [if_neg (by omega)]; first | rfl | (simp; done)) | (simp; omega)), (by repeat (first | exact Below.refl _ _ | apply below_alloc | apply pw_below_drewN | apply below_drew1 | (refine Below.setCell ?_ (by first | (simp; done) | (simp; omega) | omega) _) | (refine Below.trans ?_ (Below.mono hB (by first | (simp; done) | (simp; omega) | omega)))))⟩
end Go.Proofs.YtijdghplfhfpaaaDoor.H

/- Atoms with dots between: the walks of both sides. -/
namespace Go.Proofs.YtijdghplfhfpaaaDoor.H
open Go.RowKit Go.Proofs.YtijdghplfhfpaaaDoorW.PrintWords Go.Proofs.YtijdghplfhfpaaaDoorW.PrintLast Go.Proofs.YtijdghplfhfpaaaDoor.U
set_option linter.unusedVariables false
set_option linter.unusedSimpArgs false
theorem bytes_drop (s : ByteArray) (k : Nat) (h : k < s.size) : s.data.toList.drop k = s[k] :: s.data.toList.drop (k + 1) := by
  have hl : k < s.data.toList.length := by simpa using h
  rw [List.drop_eq_getElem_cons hl]
  rfl
set_option maxHeartbeats 1000000 in
set_option maxRecDepth 100000 in
theorem dottedMay_calls (s : ByteArray) (w : World) (hs : s.size ≤ 9223372036854775806) : Calls Tryd.prog 158 #[.string s] w fun e w' => e = .returned (.bool (scanB true s.data.toList)) ∧ Below w.heap.size w w' := by
  generalize hr : scanB true s.data.toList = r
  go_enter Tryd.func158, Tryd.ntmps158
  go_wp2
  go_loopw [3, 4] (fun v i wr => ∃ k : Nat, k ≤ s.size ∧ i = .int .i64 k ∧ ∃ b : Int, v = .int .u8 b ∧ scanB (decide (b = 46)) (s.data.toList.drop k) = r ∧ Below w.heap.size w wr) (fun _ i _ => s.size - (intOf i).toNat)
  case atStart => exact ⟨0, Nat.zero_le _, rfl, 46, rfl, hr, Below.refl _ _⟩
  case round =>
    clear hr
    obtain ⟨k, hk, rfl, b, rfl, hR, hB⟩ := hrel
    by_cases hlt : k < s.size
    · have hz := hB.size
      have b0 := (s[k]).toNat_lt
      rw [bytes_drop s k hlt] at hR
      simp only [scanB] at hR
      have he : s[k] = 46 ↔ s[k].toNat = 46 := ⟨fun h => by rw [h]; rfl, fun h => UInt8.toNat_inj.1 h⟩
      have HC := fun w => atomByte_calls s[k].toNat w (by omega) (by omega)
      have i1 : (k : Int) < (s.size : Int) := by omega
      by_cases hc : s[k].toNat = 46
      · rw [if_pos (he.2 hc)] at hR
        have q : ((s[k].toNat : Int) == 46) = true := by rw [hc]; rfl
        by_cases hb : b = 46
        · subst hb
          obtain rfl : false = r := by simpa using hR
          clear HC he hc
          go_wp2
          go_ret
          exact ⟨(by first | rfl | (simp; done) | (simp [*]; done) | (rw [if_pos (by omega)]; first | rfl | (simp; done)) | (rw [if_neg (by omega)]; first | rfl | (simp; done)) | (simp; omega)), (by repeat (first | exact Below.refl _ _ | apply below_alloc | apply pw_below_drewN | apply below_drew1 | (refine Below.setCell ?_ (by first | (simp; done) | (simp; omega) | omega) _) | (refine below_then ?_ (by first | (simp; done) | (simp; omega) | omega) hB)))⟩
        · have qb : (b == 46) = false := by simpa using hb
          have hR2 : scanB true (s.data.toList.drop (k + 1)) = r := by rw [← hR]; simp [hb]
          have hR2 := Lib.hid hR2
          clear HC he hR
          have hc := Lib.hid hc
          go_wp2
          go_roundw
          case rel => exact ⟨k + 1, by omega, by go_num, 46, by first | rfl | (rw [hc.out]; rfl), hR2.out, hB⟩
          case measure => simp [intOf]; omega
      · rw [if_neg (fun h => hc (he.1 h))] at hR
        have q : ((s[k].toNat : Int) == 46) = false := by simp; omega
        cases ha : atomB s[k].toNat with
        | false =>
          rw [ha] at HC hR
          have HC := Lib.hid HC
          obtain rfl : false = r := by simpa using hR
          clear he ha hR
          have hc := Lib.hid hc
          go_wp2_with (go_at_call 189; refine (HC.out _).mono ?_; rintro e w2 ⟨rfl, hb2⟩)
          go_ret
          exact ⟨(by first | rfl | (simp; done) | (simp [*]; done) | (rw [if_pos (by omega)]; first | rfl | (simp; done)) | (rw [if_neg (by omega)]; first | rfl | (simp; done)) | (simp; omega)), (by repeat (first | exact Below.refl _ _ | apply below_alloc | apply pw_below_drewN | apply below_drew1 | (refine Below.setCell ?_ (by first | (simp; done) | (simp; omega) | omega) _) | (refine below_then ?_ (by first | (simp; done) | (simp; omega) | omega) hb2) | (refine below_then ?_ (by first | (simp; done) | (simp; omega) | omega) hB)))⟩
        | true =>
          rw [ha] at HC hR
          have HC := Lib.hid HC
          have hR2 : scanB (decide ((s[k].toNat : Int) = 46)) (s.data.toList.drop (k + 1)) = r := by rw [← hR, show decide ((s[k].toNat : Int) = 46) = false from decide_eq_false (by omega)]; rfl
          have hR2 := Lib.hid hR2
          clear he ha hR
          have hc := Lib.hid hc
          go_wp2_with (go_at_call 189; refine (HC.out _).mono ?_; rintro e w2 ⟨rfl, hb2⟩)
          go_roundw
          case rel => exact ⟨k + 1, by omega, by go_num, _, rfl, hR2.out, (by repeat (first | exact Below.refl _ _ | apply below_alloc | apply pw_below_drewN | apply below_drew1 | (refine Below.setCell ?_ (by first | (simp; done) | (simp; omega) | omega) _) | (refine below_then ?_ (by first | (simp; done) | (simp; omega) | omega) hb2) | (refine below_then ?_ (by first | (simp; done) | (simp; omega) | omega) hB)))⟩
          case measure => simp [intOf]; omega
    · obtain rfl : k = s.size := by omega
      rw [List.drop_of_length_le (by simp)] at hR
      simp only [scanB] at hR
      have hR := Lib.hid hR
      go_wp2
      go_ret
      exact ⟨by rw [← hR.out]; by_cases h : b = 46 <;> simp [h], (by repeat (first | exact Below.refl _ _ | apply below_alloc | apply pw_below_drewN | apply below_drew1 | (refine Below.setCell ?_ (by first | (simp; done) | (simp; omega) | omega) _) | (refine below_then ?_ (by first | (simp; done) | (simp; omega) | omega) hB)))⟩
/-- A literal row of texts. -/
theorem lit_texts (l : List ByteArray) (w : World) (e : Nat) (h63 : l.length ≤ 9223372036854775807) : Kd.C Kd.string (w.alloc (.cells (l.map Value.string).toArray e)) (some ⟨w.heap.size, 0, none⟩) l.length l := by
  refine ⟨rfl, h63, fun _ => ⟨_, rfl, fun j x hj => ⟨[.string x], rfl, rfl, fun i u hi => ?_⟩⟩⟩
  match i, hi with
  | 0, hi =>
    obtain rfl : Value.string x = u := by simpa using hi
    rw [show j * Kd.string.sz + 0 = j from Nat.mul_one j, Go.WideShapes.add_plain, Nat.zero_add]
    simp [hj]
  | i + 1, hi => simp at hi
theorem split_calls (s : ByteArray) (m : Int) (w : World) (hs : s.size ≤ 1048576) (hm : w.cell? ⟨6, 0, none⟩ = some (.int .i64 m)) :
    Calls Tryd.prog 191 #[.string s, .string ⟨#[46]⟩] w fun e w' => ∃ l : List ByteArray, e = .returned (.slice (some ⟨w.heap.size, 0, none⟩) l.length l.length) ∧ l.length ≤ s.size + 1 ∧ (∀ p ∈ l, p.size ≤ s.size) ∧ (l.map fun x => x.data.toList) = Lib.split s.data.toList [46] ∧ w' = w.alloc (.cells (l.map Value.string).toArray 9) := by
  refine (Tryd.strings_Split s ⟨#[46]⟩ m w (by omega) hm (by decide)).mono fun e w' ⟨he, hw⟩ => ?_
  have hl := Lib.splitB_all ⟨#[46]⟩ (by decide) 0 (Lib.countB s ⟨#[46]⟩) s rfl
  refine ⟨_, by rw [he, hl], by rw [hl]; have := Lib.countB_le ⟨#[46]⟩ (by decide) s.size s (Nat.le_refl _); omega, fun p hp => ?_, ?_, hw⟩
  · have := split_len s.data.toList p.data.toList (by
      have := List.mem_map_of_mem (f := fun x : ByteArray => x.data.toList) hp
      rwa [Lib.splitB_data] at this)
    simpa using this
  · rw [Lib.splitB_data]
    rfl
set_option maxHeartbeats 1000000 in
set_option maxRecDepth 100000 in
theorem dotted_calls (s : ByteArray) (m : Int) (w : World) (hs : s.size ≤ 1048576) (hm : w.cell? ⟨6, 0, none⟩ = some (.int .i64 m)) :
    Calls Tryd.prog 152 #[.string s] w fun e w' => e = .returned (.bool (scanB true s.data.toList)) ∧ Below w.heap.size w w' := by
  rw [(scan_pieces s.data.toList).1]
  have HS := Lib.hid (fun w hm => split_calls s m w hs hm)
  generalize hr : (Lib.split s.data.toList [46]).all pieceB = r
  have hr := Lib.hid hr
  go_enter Tryd.func152, Tryd.ntmps152
  go_wp2_with (go_at_call 191; refine (HS.out _ hm).mono ?_; rintro e w1 ⟨l, rfl, hl, hps, hp, rfl⟩; have hr := hr.out; rw [← hp] at hr; have hr := Lib.hid hr; have hL := Lib.hid (lit_texts l w 9 (by omega)); clear HS hp)
  go_loopw [9] (fun i wr => ∃ k : Nat, k ≤ l.length ∧ i = .int .i64 k ∧ ((l.drop k).map fun x => x.data.toList).all pieceB = r ∧ Below (w.heap.size + 1) (w.alloc (.cells (l.map Value.string).toArray 9)) wr) (fun i _ => l.length - (intOf i).toNat)
  case atStart => exact ⟨0, Nat.zero_le _, rfl, hr.out, Below.refl _ _⟩
  case round =>
    obtain ⟨k, hk, rfl, hR, hB⟩ := hrel
    by_cases hlt : k < l.length
    · have hz := hB.size
      have hC := Kd.C_below hL.out (by simpa using hB)
      obtain ⟨ad, e1, hx⟩ := string_at hC k hlt
      obtain rfl := (Option.some.inj e1).symm
      rw [Go.WideShapes.add_plain, Nat.zero_add] at hx
      have i1 : (k : Int) < (l.length : Int) := by omega
      rw [List.drop_eq_getElem_cons hlt] at hR
      simp only [List.map_cons, List.all_cons] at hR
      have hps : l[k].size ≤ 1048576 := Nat.le_trans (hps _ (List.getElem_mem _)) hs
      generalize l[k] = p at *
      have hp0 : p.data.toList.isEmpty = decide (p = ⟨#[]⟩) := by
        by_cases h : p = ⟨#[]⟩
        · subst h; rfl
        · have : p.data.toList ≠ [] := fun e => h (by obtain ⟨⟨q⟩⟩ := p; simp at e; rw [e])
          simp [h]
          exact fun e => this (by rw [e])
      by_cases hpe : p = ⟨#[]⟩
      · subst hpe
        obtain rfl : false = r := by simpa [pieceB] using hR
        go_wp2
        go_ret
        exact ⟨(by first | rfl | (simp; done) | (simp [*]; done) | (rw [if_pos (by omega)]; first | rfl | (simp; done)) | (rw [if_neg (by omega)]; first | rfl | (simp; done)) | (simp; omega)), (by repeat (first | exact Below.refl _ _ | apply below_alloc | apply pw_below_drewN | apply below_drew1 | (refine Below.setCell ?_ (by first | (simp; done) | (simp; omega) | omega) _) | (refine Below.trans ?_ (Below.mono hB (by first | (simp; done) | (simp; omega) | omega)))))⟩
      · have q := lit_no (l := []) hpe
        have hR2 : (p.data.toList.all fun c => atomB c.toNat) = false ∧ r = false ∨ ((p.data.toList.all fun c => atomB c.toNat) = true ∧ ((l.drop (k + 1)).map fun x => x.data.toList).all pieceB = r) := by
          cases h : p.data.toList.all fun c => atomB c.toNat with
          | false => exact .inl ⟨rfl, by rw [← hR, pieceB, h]; simp⟩
          | true => refine .inr ⟨rfl, ?_⟩; rw [← hR, pieceB, hp0, h]; simp [hpe]
        clear hR hp0
        have hpe := Lib.hid hpe
        have hR := Lib.hid hR2
        clear hR2
        go_wp2
        go_loopw [17] (fun i wr => ∃ j : Nat, j ≤ p.size ∧ i = .int .i64 j ∧ ((p.data.toList.drop j).all fun c => atomB c.toNat) = (p.data.toList.all fun c => atomB c.toNat) ∧ Below (w.heap.size + 1) (w.alloc (.cells (l.map Value.string).toArray 9)) wr) (fun i _ => p.size - (intOf i).toNat)
        case atStart => exact ⟨0, Nat.zero_le _, rfl, rfl, hB⟩
        case round =>
          clear hB
          obtain ⟨j, hj, rfl, hJ, hB⟩ := hrel
          have hz := hB.size
          by_cases hjl : j < p.size
          · have b0 := (p[j]).toNat_lt
            rw [bytes_drop p j hjl] at hJ
            simp only [List.all_cons] at hJ
            have HC := fun w => atom_calls p[j].toNat w (by omega) (by omega)
            have i2 : (j : Int) < (p.size : Int) := by omega
            cases ha : atomB p[j].toNat with
            | false =>
              rw [ha] at HC hJ
              have HC := Lib.hid HC
              have hf : (p.data.toList.all fun c => atomB c.toNat) = false := by rw [← hJ]; rfl
              obtain rfl : r = false := by
                rcases hR.out with ⟨_, h⟩ | ⟨h, _⟩
                · exact h
                · rw [hf] at h; cases h
              clear hJ hf
              go_wp2_with (go_at_call 192; refine (HC.out _).mono ?_; rintro e w2 ⟨rfl, rfl⟩)
              go_ret
              exact ⟨(by first | rfl | (simp; done) | (simp [*]; done) | (rw [if_pos (by omega)]; first | rfl | (simp; done)) | (rw [if_neg (by omega)]; first | rfl | (simp; done)) | (simp; omega)), (by repeat (first | exact Below.refl _ _ | apply below_alloc | apply pw_below_drewN | apply below_drew1 | (refine Below.setCell ?_ (by first | (simp; done) | (simp; omega) | omega) _) | (refine Below.trans ?_ (Below.mono hB (by first | (simp; done) | (simp; omega) | omega)))))⟩
            | true =>
              rw [ha] at HC hJ
              have HC := Lib.hid HC
              have hJ := Lib.hid (show _ from (Bool.true_and _).symm.trans hJ)
              go_wp2_with (go_at_call 192; refine (HC.out _).mono ?_; rintro e w2 ⟨rfl, rfl⟩)
              go_roundw
              case rel => exact ⟨j + 1, by omega, by go_num, hJ.out, hB⟩
              case measure => simp [intOf]; omega
          · obtain rfl : j = p.size := by omega
            rw [List.drop_of_length_le (by simp)] at hJ
            have hR2 : ((l.drop (k + 1)).map fun x => x.data.toList).all pieceB = r := by
              rcases hR.out with ⟨h, _⟩ | ⟨_, h⟩
              · rw [h] at hJ; cases hJ
              · exact h
            have hR2 := Lib.hid hR2
            clear hJ
            go_wp2
            go_roundw
            case rel => exact ⟨k + 1, by omega, by go_num, hR2.out, hB⟩
            case measure => simp [intOf]; omega
    · obtain rfl : k = l.length := by omega
      rw [List.drop_of_length_le (Nat.le_refl _)] at hR
      have hR := Lib.hid hR
      go_wp2
      go_ret
      exact ⟨by rw [← hR.out]; rfl, (by repeat (first | exact Below.refl _ _ | apply below_alloc | apply pw_below_drewN | apply below_drew1 | (refine Below.setCell ?_ (by first | (simp; done) | (simp; omega) | omega) _) | (refine Below.trans ?_ (Below.mono hB (by first | (simp; done) | (simp; omega) | omega)))))⟩
end Go.Proofs.YtijdghplfhfpaaaDoor.H

/- who.Check, who.Part and the reference's AddressFault, PartOf: the walks. -/
namespace Go.Proofs.YtijdghplfhfpaaaDoor.H
open Go.RowKit Go.Proofs.YtijdghplfhfpaaaDoorW.PrintWords Go.Proofs.YtijdghplfhfpaaaDoorW.PrintLast Go.Proofs.YtijdghplfhfpaaaDoor.U
set_option linter.unusedVariables false
set_option linter.unusedSimpArgs false
def dotB (s : ByteArray) : Bool := scanB true s.data.toList
def addrFault (a b : ByteArray) : Int := if dotB a = true ∧ dotB b = true then if a.size + b.size > 99 then 1 else 0 else 3
set_option maxHeartbeats 1000000 in
set_option maxRecDepth 100000 in
theorem check_calls (a b : ByteArray) (m : Int) (w : World) (ha : a.size ≤ 1048576) (hb : b.size ≤ 1048576) (hm : w.cell? ⟨6, 0, none⟩ = some (.int .i64 m)) (hg : 6 < w.heap.size) :
    Calls Tryd.prog 97 #[.agg #[.string a, .string b]] w fun e w' => e = .returned (.int .i64 (addrFault a b)) ∧ Below w.heap.size w w' := by
  have hval : addrFault a b = if dotB a then if dotB b then if a.size + b.size > 99 then 1 else 0 else 3 else 3 := by
    unfold addrFault; cases dotB a <;> cases dotB b <;> simp
  rw [hval]
  clear hval
  unfold dotB
  have HA := fun w hm => dotted_calls a m w ha hm
  have HB := fun w hm => dotted_calls b m w hb hm
  generalize scanB true a.data.toList = da at *
  generalize scanB true b.data.toList = db at *
  have HA := Lib.hid HA
  have HB := Lib.hid HB
  cases da with
  | false =>
    go_enter Tryd.func97, Tryd.ntmps97
    go_wp2_with fail
    refine (HA.out _ (cell_below (B := w.heap.size) (by repeat (first | exact Below.refl _ _ | apply below_alloc | apply pw_below_drewN | apply below_drew1 | (refine Below.setCell ?_ (by first | (simp; done) | (simp; omega) | omega) _) )) hm hg)).mono ?_
    rintro e w1 ⟨rfl, hb1⟩
    obtain ⟨hc_w1, hf_w1⟩ := bcell hb1
    have s_ := hb1.size
    (try simp at s_)
    (first | (have : w.heap.size < w1.heap.size := by omega) | skip)
    have : w.heap.size ≤ w1.heap.size := by omega
    clear s_
    go_wp2_with fail
    go_ret
    exact ⟨(by first | rfl | (simp; done) | (simp [*]; done) | (rw [if_pos (by omega)]; first | rfl | (simp; done)) | (rw [if_neg (by omega)]; first | rfl | (simp; done)) | (simp; omega)), (by repeat (first | exact Below.refl _ _ | apply below_alloc | apply pw_below_drewN | apply below_drew1 | (refine Below.setCell ?_ (by first | (simp; done) | (simp; omega) | omega) _) | (refine below_then ?_ (by first | (simp; done) | (simp; omega) | omega) hb1)))⟩
  | true =>
    cases db with
    | false =>
      go_enter Tryd.func97, Tryd.ntmps97
      go_wp2_with fail
      refine (HA.out _ (cell_below (B := w.heap.size) (by repeat (first | exact Below.refl _ _ | apply below_alloc | apply pw_below_drewN | apply below_drew1 | (refine Below.setCell ?_ (by first | (simp; done) | (simp; omega) | omega) _) )) hm hg)).mono ?_
      rintro e w1 ⟨rfl, hb1⟩
      obtain ⟨hc_w1, hf_w1⟩ := bcell hb1
      have s_ := hb1.size
      (try simp at s_)
      (first | (have : w.heap.size < w1.heap.size := by omega) | skip)
      have : w.heap.size ≤ w1.heap.size := by omega
      clear s_
      go_wp2_with fail
      refine (HB.out _ (cell_below (B := w.heap.size) (by repeat (first | exact Below.refl _ _ | apply below_alloc | apply pw_below_drewN | apply below_drew1 | (refine Below.setCell ?_ (by first | (simp; done) | (simp; omega) | omega) _) | (refine below_then ?_ (by first | (simp; done) | (simp; omega) | omega) hb1))) hm hg)).mono ?_
      rintro e w2 ⟨rfl, hb2⟩
      obtain ⟨hc_w2, hf_w2⟩ := bcell hb2
      have s_ := hb2.size
      (try simp at s_)
      (first | (have : w.heap.size < w2.heap.size := by omega) | skip)
      have : w.heap.size ≤ w2.heap.size := by omega
      (first | (have : w1.heap.size < w2.heap.size := by omega) | skip)
      have : w1.heap.size ≤ w2.heap.size := by omega
      clear s_
      go_wp2_with fail
      go_ret
      exact ⟨(by first | rfl | (simp; done) | (simp [*]; done) | (rw [if_pos (by omega)]; first | rfl | (simp; done)) | (rw [if_neg (by omega)]; first | rfl | (simp; done)) | (simp; omega)), (by repeat (first | exact Below.refl _ _ | apply below_alloc | apply pw_below_drewN | apply below_drew1 | (refine Below.setCell ?_ (by first | (simp; done) | (simp; omega) | omega) _) | (refine below_then ?_ (by first | (simp; done) | (simp; omega) | omega) hb2) | (refine below_then ?_ (by first | (simp; done) | (simp; omega) | omega) hb1)))⟩
    | true =>
      rcases (by omega : 99 < a.size + b.size ∨ a.size + b.size ≤ 99) with h | h
      all_goals
        go_enter Tryd.func97, Tryd.ntmps97
        go_wp2_with fail
        refine (HA.out _ (cell_below (B := w.heap.size) (by repeat (first | exact Below.refl _ _ | apply below_alloc | apply pw_below_drewN | apply below_drew1 | (refine Below.setCell ?_ (by first | (simp; done) | (simp; omega) | omega) _) )) hm hg)).mono ?_
        rintro e w1 ⟨rfl, hb1⟩
        obtain ⟨hc_w1, hf_w1⟩ := bcell hb1
        have s_ := hb1.size
        (try simp at s_)
        (first | (have : w.heap.size < w1.heap.size := by omega) | skip)
        have : w.heap.size ≤ w1.heap.size := by omega
        clear s_
        go_wp2_with fail
        refine (HB.out _ (cell_below (B := w.heap.size) (by repeat (first | exact Below.refl _ _ | apply below_alloc | apply pw_below_drewN | apply below_drew1 | (refine Below.setCell ?_ (by first | (simp; done) | (simp; omega) | omega) _) | (refine below_then ?_ (by first | (simp; done) | (simp; omega) | omega) hb1))) hm hg)).mono ?_
        rintro e w2 ⟨rfl, hb2⟩
        obtain ⟨hc_w2, hf_w2⟩ := bcell hb2
        have s_ := hb2.size
        (try simp at s_)
        (first | (have : w.heap.size < w2.heap.size := by omega) | skip)
        have : w.heap.size ≤ w2.heap.size := by omega
        (first | (have : w1.heap.size < w2.heap.size := by omega) | skip)
        have : w1.heap.size ≤ w2.heap.size := by omega
        clear s_
        go_wp2_with fail
        go_ret
        exact ⟨(by first | rfl | (simp; done) | (simp [*]; done) | (rw [if_pos (by omega)]; first | rfl | (simp; done)) | (rw [if_neg (by omega)]; first | rfl | (simp; done)) | (simp; omega)), (by repeat (first | exact Below.refl _ _ | apply below_alloc | apply pw_below_drewN | apply below_drew1 | (refine Below.setCell ?_ (by first | (simp; done) | (simp; omega) | omega) _) | (refine below_then ?_ (by first | (simp; done) | (simp; omega) | omega) hb2) | (refine below_then ?_ (by first | (simp; done) | (simp; omega) | omega) hb1)))⟩
set_option maxHeartbeats 1000000 in
set_option maxRecDepth 100000 in
theorem addressFault_calls (a b : ByteArray) (w : World) (ha : a.size ≤ 1048576) (hb : b.size ≤ 1048576) :
    Calls Tryd.prog 104 #[.agg #[.string a, .string b]] w fun e w' => e = .returned (.int .i64 (addrFault a b)) ∧ Below w.heap.size w w' := by
  have hval : addrFault a b = if dotB a then if dotB b then if a.size + b.size > 99 then 1 else 0 else 3 else 3 := by
    unfold addrFault; cases dotB a <;> cases dotB b <;> simp
  rw [hval]
  clear hval
  unfold dotB
  have HA := fun w => dottedMay_calls a w (by omega)
  have HB := fun w => dottedMay_calls b w (by omega)
  generalize scanB true a.data.toList = da at *
  generalize scanB true b.data.toList = db at *
  have HA := Lib.hid HA
  have HB := Lib.hid HB
  cases da with
  | false =>
    go_enter Tryd.func104, Tryd.ntmps104
    go_wp2_with fail
    refine (HA.out _).mono ?_
    rintro e w1 ⟨rfl, hb1⟩
    obtain ⟨hc_w1, hf_w1⟩ := bcell hb1
    have s_ := hb1.size
    (try simp at s_)
    (first | (have : w.heap.size < w1.heap.size := by omega) | skip)
    have : w.heap.size ≤ w1.heap.size := by omega
    clear s_
    go_wp2_with fail
    go_ret
    exact ⟨(by first | rfl | (simp; done) | (simp [*]; done) | (rw [if_pos (by omega)]; first | rfl | (simp; done)) | (rw [if_neg (by omega)]; first | rfl | (simp; done)) | (simp; omega)), (by repeat (first | exact Below.refl _ _ | apply below_alloc | apply pw_below_drewN | apply below_drew1 | (refine Below.setCell ?_ (by first | (simp; done) | (simp; omega) | omega) _) | (refine below_then ?_ (by first | (simp; done) | (simp; omega) | omega) hb1)))⟩
  | true =>
    cases db with
    | false =>
      go_enter Tryd.func104, Tryd.ntmps104
      go_wp2_with fail
      refine (HA.out _).mono ?_
      rintro e w1 ⟨rfl, hb1⟩
      obtain ⟨hc_w1, hf_w1⟩ := bcell hb1
      have s_ := hb1.size
      (try simp at s_)
      (first | (have : w.heap.size < w1.heap.size := by omega) | skip)
      have : w.heap.size ≤ w1.heap.size := by omega
      clear s_
      go_wp2_with fail
      refine (HB.out _).mono ?_
      rintro e w2 ⟨rfl, hb2⟩
      obtain ⟨hc_w2, hf_w2⟩ := bcell hb2
      have s_ := hb2.size
      (try simp at s_)
      (first | (have : w.heap.size < w2.heap.size := by omega) | skip)
      have : w.heap.size ≤ w2.heap.size := by omega
      (first | (have : w1.heap.size < w2.heap.size := by omega) | skip)
      have : w1.heap.size ≤ w2.heap.size := by omega
      clear s_
      go_wp2_with fail
      go_ret
      exact ⟨(by first | rfl | (simp; done) | (simp [*]; done) | (rw [if_pos (by omega)]; first | rfl | (simp; done)) | (rw [if_neg (by omega)]; first | rfl | (simp; done)) | (simp; omega)), (by repeat (first | exact Below.refl _ _ | apply below_alloc | apply pw_below_drewN | apply below_drew1 | (refine Below.setCell ?_ (by first | (simp; done) | (simp; omega) | omega) _) | (refine below_then ?_ (by first | (simp; done) | (simp; omega) | omega) hb2) | (refine below_then ?_ (by first | (simp; done) | (simp; omega) | omega) hb1)))⟩
    | true =>
      rcases (by omega : 99 < a.size + b.size ∨ a.size + b.size ≤ 99) with h | h
      all_goals
        go_enter Tryd.func104, Tryd.ntmps104
        go_wp2_with fail
        refine (HA.out _).mono ?_
        rintro e w1 ⟨rfl, hb1⟩
        obtain ⟨hc_w1, hf_w1⟩ := bcell hb1
        have s_ := hb1.size
        (try simp at s_)
        (first | (have : w.heap.size < w1.heap.size := by omega) | skip)
        have : w.heap.size ≤ w1.heap.size := by omega
        clear s_
        go_wp2_with fail
        refine (HB.out _).mono ?_
        rintro e w2 ⟨rfl, hb2⟩
        obtain ⟨hc_w2, hf_w2⟩ := bcell hb2
        have s_ := hb2.size
        (try simp at s_)
        (first | (have : w.heap.size < w2.heap.size := by omega) | skip)
        have : w.heap.size ≤ w2.heap.size := by omega
        (first | (have : w1.heap.size < w2.heap.size := by omega) | skip)
        have : w1.heap.size ≤ w2.heap.size := by omega
        clear s_
        go_wp2_with fail
        go_ret
        exact ⟨(by first | rfl | (simp; done) | (simp [*]; done) | (rw [if_pos (by omega)]; first | rfl | (simp; done)) | (rw [if_neg (by omega)]; first | rfl | (simp; done)) | (simp; omega)), (by repeat (first | exact Below.refl _ _ | apply below_alloc | apply pw_below_drewN | apply below_drew1 | (refine Below.setCell ?_ (by first | (simp; done) | (simp; omega) | omega) _) | (refine below_then ?_ (by first | (simp; done) | (simp; omega) | omega) hb2) | (refine below_then ?_ (by first | (simp; done) | (simp; omega) | omega) hb1)))⟩
end Go.Proofs.YtijdghplfhfpaaaDoor.H

/- A block known whole: its cells, none frozen; what becomes of it. -/
namespace Go.Proofs.YtijdghplfhfpaaaDoor.H
open Go.RowKit Go.Proofs.YtijdghplfhfpaaaDoorW.PrintWords Go.Proofs.YtijdghplfhfpaaaDoorW.PrintLast Go.Proofs.YtijdghplfhfpaaaDoor.U
set_option linter.unusedVariables false
set_option linter.unusedSimpArgs false
/-- Block b holds these cells, and may be written. -/
def Blk (w : World) (b : Nat) (l : List Value) : Prop := b < w.heap.size ∧ ∀ i v, l[i]? = some v → w.cell? ⟨b, i, none⟩ = some v ∧ w.frozen? ⟨b, i, none⟩ = false
theorem Blk.lt {w : World} {b : Nat} {l : List Value} (h : Blk w b l) : b < w.heap.size := h.1
theorem Blk.at {w : World} {b : Nat} {l : List Value} (h : Blk w b l) (i : Nat) (v : Value) (hv : l[i]? = some v) : w.cell? ⟨b, i, none⟩ = some v := (h.2 i v hv).1
theorem Blk.free {w : World} {b : Nat} {l : List Value} (h : Blk w b l) (i : Nat) (v : Value) (hv : l[i]? = some v) : w.frozen? ⟨b, i, none⟩ = false := (h.2 i v hv).2
theorem Blk.made (w : World) (a : Array Value) (t : Nat) : Blk (w.alloc (.cells a t)) w.heap.size a.toList :=
  ⟨by simp, fun i v hv => ⟨by simpa using hv, by simp⟩⟩
theorem Blk.grown {w w1 : World} {row : Option Nat} {b : Nat} {l : List Value} (h : Blk w b l) (hg : w.grownBy w1 row) (hne : some b ≠ row) : Blk w1 b l :=
  ⟨Nat.lt_of_lt_of_le h.1 hg.size, fun i v hv => ⟨(hg.cell_far ⟨b, i, none⟩ h.1 hne).trans (h.at i v hv), (hg.frozen_far ⟨b, i, none⟩ h.1 hne).trans (h.free i v hv)⟩⟩
theorem Blk.below {w w1 : World} {b B : Nat} {l : List Value} (h : Blk w b l) (hb : Below B w w1) (hB : b < B) : Blk w1 b l :=
  ⟨Nat.lt_of_lt_of_le h.1 hb.size, fun i v hv => ⟨(hb.cell (p := ⟨b, i, none⟩) hB).trans (h.at i v hv), (hb.frozen (p := ⟨b, i, none⟩) hB).trans (h.free i v hv)⟩⟩
theorem Blk.other {w : World} {b c j : Nat} {l : List Value} (h : Blk w b l) (hne : c ≠ b) (u : Value) : Blk (w.setCell ⟨c, j, none⟩ u) b l :=
  ⟨by simpa using h.1, fun i v hv => ⟨by rw [World.cell?_setCell_other _ _ _ _ (by simp [hne.symm])]; exact h.at i v hv, by simpa using h.free i v hv⟩⟩
theorem Blk.set {w : World} {b : Nat} {l : List Value} (h : Blk w b l) (i : Nat) (u : Value) (hi : i < l.length) : Blk (w.setCell ⟨b, i, none⟩ u) b (l.set i u) := by
  refine ⟨by simpa using h.1, fun j v hv => ?_⟩
  have hj : j < l.length := by
    rcases Nat.lt_or_ge j l.length with hj | hj
    · exact hj
    · rw [List.getElem?_eq_none (by simpa using hj)] at hv; cases hv
  have old := h.2 j l[j] (List.getElem?_eq_getElem hj)
  refine ⟨?_, by simpa using old.2⟩
  by_cases e : i = j
  · subst e
    rw [List.getElem?_set_self hi] at hv
    obtain rfl := Option.some.inj hv
    exact World.cell?_setCell_same _ _ _ old.1
  · rw [List.getElem?_set_ne e] at hv
    rw [World.cell?_setCell_other _ _ _ _ (by first | (simp; done) | (simp; omega))]
    exact h.at j v hv
theorem Blk.drawN {w : World} {b : Nat} {l : List Value} (h : Blk w b l) (n : Nat) : Blk (w.drewN n) b l := ⟨by simpa using h.1, fun i v hv => ⟨by simpa using h.at i v hv, by simpa using h.free i v hv⟩⟩
theorem Blk.drew {w : World} {b : Nat} {l : List Value} (h : Blk w b l) : Blk w.drew b l := ⟨by simpa using h.1, fun i v hv => ⟨by simpa using h.at i v hv, by simpa using h.free i v hv⟩⟩
theorem Blk.alloc {w : World} {b : Nat} {l : List Value} (h : Blk w b l) (o : Obj) : Blk (w.alloc o) b l := h.below (Below.alloc (Below.refl _ _) (Nat.le_refl _) o) h.1
theorem Cur.alloc {w : World} {b i : Nat} {s : ByteArray} (h : Cur w b s i) (o : Obj) : Cur (w.alloc o) b s i := h.below (Below.alloc (Below.refl _ _) (Nat.le_refl _) o) h.lt
theorem Cur.other {w : World} {b i c j : Nat} {s : ByteArray} (h : Cur w b s i) (hne : c ≠ b) (u : Value) : Cur (w.setCell ⟨c, j, none⟩ u) b s i :=
  ⟨by rw [World.cell?_setCell_other _ _ _ _ (by simp [hne.symm])]; exact h.c0, by rw [World.cell?_setCell_other _ _ _ _ (by simp [hne.symm])]; exact h.c1, by simpa using h.f0, by simpa using h.f1, by simpa using h.lt⟩
theorem Cur.setI {w : World} {b i : Nat} {s : ByteArray} (h : Cur w b s i) (v : Int) (k : Nat) (hv : v = k) : Cur (w.setCell ⟨b, 1, none⟩ (.int .i64 v)) b s k := by subst hv; exact h.set k
theorem grown_alloc {w w1 : World} {row : Option Nat} (h : w.grownBy w1 row) (o : Obj) : w.grownBy (w1.alloc o) row := grown_trans h (World.grownBy_alloc _ _ _)
theorem grown_new {w w1 : World} {row : Option Nat} {B : Nat} (h : w.grownBy w1 row) (hB : w.heap.size ≤ B) (i : Nat) (v : Value) : w.grownBy (w1.setCell ⟨B, i, none⟩ v) row :=
  ⟨h.os, h.tape, h.output, by simpa [World.setCell] using h.size, fun k hk hn => (Below.heap_setCell _ _ _ _ (by first | (simp; done) | (simp; omega))).trans (h.block k hk hn)⟩
theorem grown_more {w w1 w2 : World} {row : Option Nat} {B : Nat} (h : w.grownBy w1 row) (k : Below B w1 w2) (hB : w.heap.size ≤ B) : w.grownBy w2 row :=
  ⟨k.os.trans h.os, k.tape.trans h.tape, k.output.trans h.output, Nat.le_trans h.size k.size, fun i hi hn => (k.block i (Nat.lt_of_lt_of_le hi hB)).trans (h.block i hi hn)⟩
theorem grown_cell {w w1 : World} {row : Option Nat} {b o : Nat} {v : Value} (hg : w.grownBy w1 row) (h : w.cell? ⟨b, o, none⟩ = some v) (hlt : b < w.heap.size) (hne : some b ≠ row) : w1.cell? ⟨b, o, none⟩ = some v := (hg.cell_far ⟨b, o, none⟩ hlt hne).trans h
theorem cell_alloc {w : World} {b o : Nat} {v : Value} (h : w.cell? ⟨b, o, none⟩ = some v) (hlt : b < w.heap.size) (x : Obj) : (w.alloc x).cell? ⟨b, o, none⟩ = some v := cell_below (Below.alloc (Below.refl _ _) (Nat.le_refl _) x) h hlt
theorem lt_of_cell' {w : World} {a : Addr} {v : Value} (h : w.cell? a = some v) : a.block < w.heap.size := by
  rcases Nat.lt_or_ge a.block w.heap.size with h1 | h1
  · exact h1
  · simp [World.cell?, Array.getElem?_eq_none h1] at h
theorem cell_alloc' {w : World} {a : Addr} {v : Value} (h : w.cell? a = some v) (o : Obj) : (w.alloc o).cell? a = some v :=
  (Below.cell (p := a) (Below.alloc (Below.refl w.heap.size w) (Nat.le_refl _) o) (lt_of_cell' h)).trans h
theorem cell_other' {w : World} {a : Addr} {v : Value} {c j : Nat} (h : w.cell? a = some v) (hne : a.block ≠ c) (u : Value) : (w.setCell ⟨c, j, none⟩ u).cell? a = some v := by
  rw [World.cell?_setCell_other _ _ _ _ (by intro e; have e2 := congrArg Addr.block e; first | exact hne e2 | exact hne e2.symm)]; exact h
theorem cell_other {w : World} {b o c j : Nat} {v : Value} (h : w.cell? ⟨b, o, none⟩ = some v) (hne : c ≠ b) (u : Value) : (w.setCell ⟨c, j, none⟩ u).cell? ⟨b, o, none⟩ = some v := by
  rw [World.cell?_setCell_other _ _ _ _ (by simp [hne.symm])]; exact h
/-- A block of the call's own has been written. -/
theorem below_row2 {w wr w1 : World} {b : Nat} (hB : Below w.heap.size w wr) (hg : wr.grownBy w1 (some (w.heap.size + b))) : Below w.heap.size w w1 :=
  hB.trans ⟨hg.os, hg.tape, hg.output, hg.size, fun i hi => hg.block i (by have := hB.size; omega) (by simp; omega)⟩
theorem Blk.made_at {w : World} (a : Array Value) (t n : Nat) (h : w.heap.size = n) : Blk (w.alloc (.cells a t)) n a.toList := by subst h; exact Blk.made w a t
theorem Cur.made_at {w : World} (s : ByteArray) (i t n : Nat) (h : w.heap.size = n) : Cur (w.alloc (.cells #[.string s, .int .i64 i] t)) n s i := by subst h; exact Cur.made w s i t
/-- In a function that defers: what a panic leaves hangs on the slots that its results name alone. -/
theorem leaves_put {P : Program} {fn : Func} {R : Ending → World → Prop} {tmps tmps' : Array Value} (h : results fn tmps = results fn tmps') : ∀ (ds : List Deferred) (u : FrameMode) (w : World), Leaves P fn tmps R ds u w → Leaves P fn tmps' R ds u w
  | [], .returning, w, ⟨v, hr, hR⟩ => ⟨v, h ▸ hr, hR⟩
  | [], .panicking _, w, hh => hh
  | d :: ds, u, w, ⟨h1, fv, cap, f, args, h2, h3, h4⟩ => ⟨h1, fv, cap, f, args, h2, h3, h4.mono fun e u' w' he => by
      cases e with
      | returned v => exact leaves_put h ds _ _ he
      | panicked c => exact leaves_put h ds _ _ he
      | outgrown => exact he⟩
theorem panic_put {P : Program} {fn : Func} {R : Ending → World → Prop} {a : Act} {c : List PanicEntry} {w : World} {d : Nat} {v : Value} (h : results fn (a.tmps.setIfInBounds d v) = results fn a.tmps)
    (hh : bodyPostD P fn R (.panic c) (a.put (some d) v) w) : bodyPostD P fn R (.panic c) a w := leaves_put h _ _ _ hh
section
variable {P : Program} {ops : Array Oper} {o : Oper} {a : Act} {Q : Exit → Act → World → Prop} {Kc : Act → World → Prop} {α : Type} {d : Kd α} {t e bytes : Nat} {z : Value}
/-- append(v, x) in a region that draws, x's cells cs in the literal's block. -/
theorem snoc_step (T : RowT P d t e bytes z) (base : Nat) {W : World} (hw : Region.wanted o (yielded ops a.tmps) = true) (s x : Operand)
    (ho : o.op = .call { callee := .builtin .append, args := #[s, x], argTypes := #[t, t] })
    (v : Value) (xs : List α) (p : α) (cs : List Value) (hs : a.eval s = v) (hx : a.eval x = .slice (some ⟨W.heap.size, 0, none⟩) 1 1) (hp : d.K W p cs)
    (HO : d.R e W base (fun _ => True) v xs) (hbase : base ≤ W.heap.size) (hl : (xs.length + 1) * bytes ≤ 140737488355328)
    (h : ∀ v1 w1, d.R e w1 base (fun _ => True) v1 (xs ++ [p]) → Below base W w1 → W.grownBy w1 v.ownBlock → Kc (a.put o.dst v1) w1) :
    if Region.wanted o (yielded ops a.tmps) = true then Oper.wp P o a (W.alloc (.cells cs.toArray e)) Kc Q else Kc (a.put o.dst undef) (W.alloc (.cells cs.toArray e)) :=
  Kd.R_append_step d (w0 := W) base hw s x t e z bytes ho T.ht T.hinfo T.hz T.hs0 T.hb0 v xs p cs (fun _ => True) (fun _ => False) hs hx (T.flat W p cs hp _ _) (fun _ h => h.elim) (fun _ _ => trivial) HO (Below.refl _ _) hbase hl
    (fun v1 w1 hR hb hg _ => h v1 w1 hR hb hg)
theorem R_grownE {w w1 : World} {base b : Nat} {v : Value} {xs : List α} {ok : Nat → Prop} (h : d.R e w base ok v xs) (hg : w.grownBy w1 (some b)) (hb : b < base) : d.R e w1 base (fun _ => True) v xs :=
  Kd.R_mono (Kd.R_grown (Kd.R_bound h) hg (fun k hk he => by have := hk.2.1; simp at he; omega)) (fun _ _ => trivial)
/-- What a block below the row's base holds, the row's writing keeps. -/
theorem Blk.beside {w w1 : World} {b : Nat} {l : List Value} {base : Nat} {v : Value} {xs : List α} {ok : Nat → Prop} (h : Blk w b l) (hR : d.R e w base ok v xs) (hg : w.grownBy w1 v.ownBlock) (hb : b < base) : Blk w1 b l := by
  obtain ⟨inner, ho⟩ := Kd.R_own hR
  exact h.grown hg (fun he => by have := own_base ho b he.symm; omega)
end
end Go.Proofs.YtijdghplfhfpaaaDoor.H

/- Lists of addresses: the reader's small methods: the walks. -/
namespace Go.Proofs.YtijdghplfhfpaaaDoor.H
open Go.RowKit Go.Proofs.YtijdghplfhfpaaaDoorW.PrintWords Go.Proofs.YtijdghplfhfpaaaDoorW.PrintLast Go.Proofs.YtijdghplfhfpaaaDoor.U
set_option linter.unusedVariables false
set_option linter.unusedSimpArgs false
theorem place_next {w : World} {b k n : Nat} {s : ByteArray} (h : Cur w b s k) : placeOf ((w.drewN n).setCell ⟨b, 1, none⟩ (.int .i64 ((k : Int) + 1))) b = k + 1 := by
  have := (Cur.set (Cur.drawN h n) (k + 1)).place
  simpa using this
set_option maxHeartbeats 1000000 in
set_option maxRecDepth 100000 in
theorem rskip_calls (b : Nat) (s : ByteArray) (i : Nat) (w : World) (hc : Cur w b s i) (hi : i ≤ s.size) (hs : s.size ≤ 9223372036854775806) :
    Calls Tryd.prog 147 #[.pointer (some ⟨b, 0, none⟩)] w fun e w' => e = .returned (.tuple #[]) ∧ Cur w' b s (spanEnd blankB s i) ∧ w.grownBy w' (some b) := by
  obtain ⟨hle, hse⟩ := spanEnd_le blankB s _ i rfl hi
  generalize hE : spanEnd blankB s i = E at *
  go_enter Tryd.func147, Tryd.ntmps147
  have hp := hc.place
  obtain ⟨c0, c1, f0, f1, lt⟩ := hc
  go_wp2
  go_loopw [] (fun wr => ∃ k : Nat, k ≤ s.size ∧ Cur wr b s k ∧ spanEnd blankB s k = E ∧ w.grownBy wr (some b)) (fun wr => s.size - placeOf wr b)
  case atStart => exact ⟨i, hi, ⟨c0, c1, f0, f1, lt⟩, hE, (by repeat (first | exact World.grownBy.refl _ _ | apply grown_drawN | apply grown_drew | apply grown_set | exact hB))⟩
  case round =>
    clear c0 c1 f0 f1 lt hE
    obtain ⟨k, hk, hc, hE, hB⟩ := hrel
    have hp2 := hc.place
    by_cases hlt : k < s.size
    · have b0 := (s[k]).toNat_lt
      have i0 : (0 : Int) ≤ (k : Int) := by omega
      have i1 : (k : Int) < (s.size : Int) := by omega
      have hy := spanEnd_yes blankB hlt
      have hn := spanEnd_no blankB hlt
      obtain ⟨c0, c1, f0, f1, lt⟩ := hc
      rcases (by omega : s[k].toNat = 32 ∨ s[k].toNat = 9 ∨ (s[k].toNat ≠ 32 ∧ s[k].toNat ≠ 9)) with h1 | h1 | ⟨h1, h2⟩
      · have hq := Lib.hid ((hy (by simp [blankB, h1])).symm.trans hE)
        have e1 : ((s[k].toNat : Int) == 32) = true := by rw [beq_iff_eq]; omega
        clear hn hy hE h1
        go_wp2
        go_quiet (fail)
        go_wp2
        go_roundw
        case rel => exact ⟨k + 1, by omega, Cur.set (Cur.drawN ⟨c0, c1, f0, f1, lt⟩ _) (k + 1), hq.out, (by repeat (first | exact World.grownBy.refl _ _ | apply grown_drawN | apply grown_drew | apply grown_set | exact hB))⟩
        case measure => rw [hp2, place_next (Cur.mk c0 c1 f0 f1 lt)]; omega
      · have hq := Lib.hid ((hy (by simp [blankB, h1])).symm.trans hE)
        have e1 : ((s[k].toNat : Int) == 32) = false := by rw [beq_eq_false_iff_ne]; omega
        have e2 : ((s[k].toNat : Int) == 9) = true := by rw [beq_iff_eq]; omega
        clear hn hy hE h1
        go_wp2
        go_quiet (fail)
        go_wp2
        go_roundw
        case rel => exact ⟨k + 1, by omega, Cur.set (Cur.drawN ⟨c0, c1, f0, f1, lt⟩ _) (k + 1), hq.out, (by repeat (first | exact World.grownBy.refl _ _ | apply grown_drawN | apply grown_drew | apply grown_set | exact hB))⟩
        case measure => rw [hp2, place_next (Cur.mk c0 c1 f0 f1 lt)]; omega
      · obtain rfl : k = E := (hn (by simp [blankB]; omega)).symm.trans hE
        have e1 : ((s[k].toNat : Int) == 32) = false := by rw [beq_eq_false_iff_ne]; omega
        have e2 : ((s[k].toNat : Int) == 9) = false := by rw [beq_eq_false_iff_ne]; omega
        clear hn hy hE h1 h2
        go_wp2
        go_quiet (fail)
        go_wp2
        go_end0
        exact ⟨rfl, (by repeat (first | exact (Cur.mk c0 c1 f0 f1 lt) | apply Cur.drawN | apply Cur.drew | apply Cur.set)), (by repeat (first | exact World.grownBy.refl _ _ | apply grown_drawN | apply grown_drew | apply grown_set | exact hB))⟩
    · obtain rfl : k = s.size := by omega
      obtain rfl : s.size = E := by rw [← hE, spanEnd_end _ (by omega)]
      obtain ⟨c0, c1, f0, f1, lt⟩ := hc
      clear hE
      go_wp2
      go_quiet (fail)
      go_wp2
      go_end0
      exact ⟨rfl, (by repeat (first | exact (Cur.mk c0 c1 f0 f1 lt) | apply Cur.drawN | apply Cur.drew | apply Cur.set)), (by repeat (first | exact World.grownBy.refl _ _ | apply grown_drawN | apply grown_drew | apply grown_set | exact hB))⟩
set_option maxHeartbeats 1000000 in
set_option maxRecDepth 100000 in
theorem rnext_calls (b : Nat) (s : ByteArray) (i : Nat) (w : World) (hc : Cur w b s i) (hi : i ≤ s.size) (hs : s.size ≤ 9223372036854775806) :
    Calls Tryd.prog 149 #[.pointer (some ⟨b, 0, none⟩)] w fun e w' => e = .returned (.int .u8 (nx s i)) ∧ ∃ n, w' = w.drewN n := by
  obtain ⟨c0, c1, f0, f1, lt⟩ := hc
  by_cases h : i < s.size
  · rw [nx_in h]
    have i0 : (0 : Int) ≤ (i : Int) := by omega
    have i1 : (i : Int) < (s.size : Int) := by omega
    have e1 : ((i : Int) == s.size) = false := by rw [beq_eq_false_iff_ne]; omega
    go_enter Tryd.func149, Tryd.ntmps149
    go_wp2
    go_quiet (fail)
    go_wp2
    go_quiet (fail)
    go_wp2
    go_ret
    exact ⟨rfl, (by first | exact ⟨0, rfl⟩ | exact ⟨_, rfl⟩ | (simp only [World.drewN_drewN]; exact ⟨_, rfl⟩))⟩
  · rw [nx_out h]
    obtain rfl : i = s.size := by omega
    go_enter Tryd.func149, Tryd.ntmps149
    go_wp2
    go_quiet (fail)
    go_wp2
    go_ret
    exact ⟨rfl, (by first | exact ⟨0, rfl⟩ | exact ⟨_, rfl⟩ | (simp only [World.drewN_drewN]; exact ⟨_, rfl⟩))⟩
theorem rnext_cur (b : Nat) (s : ByteArray) (i : Nat) (w : World) (hc : Cur w b s i) (hi : i ≤ s.size) (hs : s.size ≤ 9223372036854775806) :
    Calls Tryd.prog 149 #[.pointer (some ⟨b, 0, none⟩)] w fun e w' => e = .returned (.int .u8 (nx s i)) ∧ Cur w' b s i ∧ w.grownBy w' (some b) :=
  (rnext_calls b s i w hc hi hs).mono fun e w' ⟨he, n, hw⟩ => ⟨he, by subst hw; exact hc.drawN n, by subst hw; exact grown_drawN (World.grownBy.refl _ _) n⟩
theorem must_yes (w : World) : Calls Tryd.prog 148 #[.bool true] w fun e w' => e = .returned (.tuple #[]) ∧ w = w' := by
  go_enter Tryd.func148, Tryd.ntmps148
  go_wp2
  go_end0
  exact ⟨rfl, rfl⟩
/-- The panic of who.must. -/
def mustP : List PanicEntry := [{ v := .iface 26 (.int .i64 3), recovered := false }]
theorem must_no (w : World) : Calls Tryd.prog 148 #[.bool false] w fun e w' => e = .panicked mustP ∧ w = w' := by
  go_enter Tryd.func148, Tryd.ntmps148
  go_wp2
  exact ⟨rfl, rfl, rfl⟩
set_option maxHeartbeats 1000000 in
set_option maxRecDepth 100000 in
theorem rrun_calls (b : Nat) (s : ByteArray) (i : Nat) (w : World) (hc : Cur w b s i) (hi : i ≤ s.size) (hs : s.size ≤ 9223372036854775806) :
    Calls Tryd.prog 187 #[.pointer (some ⟨b, 0, none⟩)] w fun e w' => e = .returned (.string (s.extract i (spanEnd runB s i))) ∧ Cur w' b s (spanEnd runB s i) ∧ w.grownBy w' (some b) := by
  obtain ⟨hle, hse⟩ := spanEnd_le runB s _ i rfl hi
  generalize hE : spanEnd runB s i = E at *
  go_enter Tryd.func187, Tryd.ntmps187
  have hp := hc.place
  obtain ⟨c0, c1, f0, f1, lt⟩ := hc
  go_wp2
  go_loopw [] (fun wr => ∃ k : Nat, k ≤ s.size ∧ Cur wr b s k ∧ spanEnd runB s k = E ∧ w.grownBy wr (some b)) (fun wr => s.size - placeOf wr b)
  case atStart => exact ⟨i, hi, ⟨c0, c1, f0, f1, lt⟩, hE, (by repeat (first | exact World.grownBy.refl _ _ | apply grown_drawN | apply grown_drew | apply grown_set | exact hB))⟩
  case round =>
    clear c0 c1 f0 f1 lt hE
    obtain ⟨k, hk, hc, hE, hB⟩ := hrel
    have hp2 := hc.place
    by_cases hlt : k < s.size
    · have b0 := (s[k]).toNat_lt
      have i0 : (0 : Int) ≤ (k : Int) := by omega
      have i1 : (k : Int) < (s.size : Int) := by omega
      have hy := spanEnd_yes runB hlt
      have hn := spanEnd_no runB hlt
      have hl := fun w => atom_calls s[k].toNat w (by omega) (by omega)
      unfold runB at hy hn
      generalize atomB s[k].toNat = at_ at hl hy hn
      have hl := Lib.hid hl
      obtain ⟨c0, c1, f0, f1, lt⟩ := hc
      by_cases h1 : at_ = true ∨ s[k].toNat = 46
      · have hq := Lib.hid ((hy (by rcases h1 with h1 | h1 <;> simp [h1])).symm.trans hE)
        clear hn hy hE
        rcases (by cases at_ <;> simp_all : at_ = true ∨ (at_ = false ∧ s[k].toNat = 46)) with rfl | ⟨rfl, h2⟩
        · clear h1
          go_wp2
          go_quiet ((go_at_call 192; exact quiet_eq (hl.out _)))
          go_wp2
          go_roundw
          case rel => exact ⟨k + 1, by omega, Cur.set (Cur.drawN ⟨c0, c1, f0, f1, lt⟩ _) (k + 1), hq.out, (by repeat (first | exact World.grownBy.refl _ _ | apply grown_drawN | apply grown_drew | apply grown_set | exact hB))⟩
          case measure => rw [hp2, place_next (Cur.mk c0 c1 f0 f1 lt)]; omega
        · have e1 : ((s[k].toNat : Int) == 46) = true := by rw [beq_iff_eq]; omega
          clear h1 h2
          go_wp2
          go_quiet ((go_at_call 192; exact quiet_eq (hl.out _)))
          go_wp2
          go_roundw
          case rel => exact ⟨k + 1, by omega, Cur.set (Cur.drawN ⟨c0, c1, f0, f1, lt⟩ _) (k + 1), hq.out, (by repeat (first | exact World.grownBy.refl _ _ | apply grown_drawN | apply grown_drew | apply grown_set | exact hB))⟩
          case measure => rw [hp2, place_next (Cur.mk c0 c1 f0 f1 lt)]; omega
      · obtain ⟨rfl, h2⟩ : at_ = false ∧ s[k].toNat ≠ 46 := ⟨by cases at_ <;> simp_all, fun h => h1 (.inr h)⟩
        obtain rfl : k = E := (hn (by simp; omega)).symm.trans hE
        have e1 : ((s[k].toNat : Int) == 46) = false := by rw [beq_eq_false_iff_ne]; omega
        have i2 : (0 : Int) ≤ (i : Int) := by omega
        have i3 : (i : Int) ≤ (k : Int) := by omega
        have i4 : (k : Int) ≤ (s.size : Int) := by omega
        clear hn hy hE h1 h2
        go_wp2
        go_quiet ((go_at_call 192; exact quiet_eq (hl.out _)))
        go_wp2
        go_quiet (fail)
        go_wp2
        go_ret
        exact ⟨rfl, (by repeat (first | exact (Cur.mk c0 c1 f0 f1 lt) | apply Cur.drawN | apply Cur.drew | apply Cur.set)), (by repeat (first | exact World.grownBy.refl _ _ | apply grown_drawN | apply grown_drew | apply grown_set | exact hB))⟩
    · obtain rfl : k = s.size := by omega
      obtain rfl : s.size = E := by rw [← hE, spanEnd_end _ (by omega)]
      obtain ⟨c0, c1, f0, f1, lt⟩ := hc
      clear hE
      have i2 : (0 : Int) ≤ (i : Int) := by omega
      have i3 : (i : Int) ≤ (s.size : Int) := by omega
      go_wp2
      go_quiet (fail)
      go_wp2
      go_quiet (fail)
      go_wp2
      go_ret
      exact ⟨rfl, (by repeat (first | exact (Cur.mk c0 c1 f0 f1 lt) | apply Cur.drawN | apply Cur.drew | apply Cur.set)), (by repeat (first | exact World.grownBy.refl _ _ | apply grown_drawN | apply grown_drew | apply grown_set | exact hB))⟩
/-- A method that ends at a place, or panics by who.must. -/
def PostQ (w : World) (b : Nat) (s : ByteArray) (R : Option Nat) (e : Ending) (w' : World) : Prop :=
  match R with
  | some k => e = .returned (.tuple #[]) ∧ Cur w' b s k ∧ w.grownBy w' (some b)
  | none => e = .panicked mustP ∧ w.grownBy w' (some b)
set_option maxHeartbeats 1000000 in
set_option maxRecDepth 100000 in
theorem rquoted_calls (b : Nat) (s : ByteArray) (i : Nat) (w : World) (hc : Cur w b s i) (hi : i < s.size) (hs : s.size ≤ 9223372036854775000) :
    Calls Tryd.prog 185 #[.pointer (some ⟨b, 0, none⟩)] w (PostQ w b s (qEnd s (i + 1))) := by
  generalize hR : qEnd s (i + 1) = R
  have hp := hc.place
  obtain ⟨c0, c1, f0, f1, lt⟩ := hc
  go_enter Tryd.func185, Tryd.ntmps185
  go_wp2
  go_loopw [] (fun wr => ∃ k : Nat, k ≤ s.size ∧ Cur wr b s k ∧ qEnd s k = R ∧ w.grownBy wr (some b)) (fun wr => s.size - placeOf wr b)
  case atStart => exact ⟨i + 1, hi, Cur.set ⟨c0, c1, f0, f1, lt⟩ (i + 1), hR, (by repeat (first | exact World.grownBy.refl _ _ | apply grown_drawN | apply grown_drew | apply grown_set | exact hB))⟩
  case round =>
    clear c0 c1 f0 f1 lt hR
    obtain ⟨k, hk, hc, hR, hB⟩ := hrel
    have hp2 := hc.place
    have HN := Lib.hid (fun W hc => rnext_cur b s k W hc hk (by omega))
    by_cases hlt : k < s.size
    · have b0 := (s[k]).toNat_lt
      rw [qEnd, dif_pos hlt] at hR
      rw [nx_in hlt] at HN
      have i1 : (k : Int) < (s.size : Int) := by omega
      by_cases h1 : s[k].toNat = 34
      · rw [if_pos h1] at hR
        subst hR
        have e1 : ((s[k].toNat : Int) != 34) = false := by rw [bne_eq_false_iff_eq]; omega
        clear h1
        go_wp2_with fail
        refine (HN.out _ (by repeat (first | exact hc | apply Cur.drawN | apply Cur.drew | apply Cur.set))).mono ?_
        rintro e w2 ⟨rfl, hc2, hg2⟩
        have h_ := hc2
        obtain ⟨c0, c1, f0, f1, lt⟩ := h_
        go_wp2
        go_end0
        exact ⟨rfl, Cur.set hc2 (k + 1), (by repeat (first | exact World.grownBy.refl _ _ | apply grown_drawN | apply grown_drew | apply grown_set | exact (grown_trans hB hg2)))⟩
      · rw [if_neg h1] at hR
        have e1 : ((s[k].toNat : Int) != 34) = true := by rw [bne_iff_ne]; omega
        by_cases h2 : s[k].toNat = 92
        · rw [if_pos h2] at hR
          have e2 : ((s[k].toNat : Int) == 92) = true := by rw [beq_iff_eq]; omega
          by_cases h3 : k + 1 < s.size
          · rw [if_pos h3] at hR
            have hR := Lib.hid hR
            have i2 : (k : Int) + 1 < (s.size : Int) := by omega
            clear h1 h2
            go_wp2_with fail
            refine (HN.out _ (by repeat (first | exact hc | apply Cur.drawN | apply Cur.drew | apply Cur.set))).mono ?_
            rintro e w2 ⟨rfl, hc2, hg2⟩
            have h_ := hc2
            obtain ⟨c0, c1, f0, f1, lt⟩ := h_
            go_wp2_with fail
            refine (HN.out _ (by repeat (first | exact hc2 | apply Cur.drawN | apply Cur.drew | apply Cur.set))).mono ?_
            rintro e w3 ⟨rfl, hc3, hg3⟩
            have h_ := hc3
            obtain ⟨c0, c1, f0, f1, lt⟩ := h_
            go_wp2_with fail
            go_quiet ((go_at_call 148; exact quiet_eq (must_yes _)))
            go_wp2
            have hc4 := Cur.setI (Cur.drawN (Cur.setI hc3 ((k : Int) + 1) (k + 1) (by omega)) nq) ((k : Int) + 1 + 1) (k + 2) (by omega)
            go_roundw
            case rel => exact ⟨k + 2, by omega, hc4, hR.out, (by repeat (first | exact World.grownBy.refl _ _ | apply grown_drawN | apply grown_drew | apply grown_set | exact (grown_trans hB (grown_trans hg2 hg3))))⟩
            case measure => rw [hp2, hc4.place]; omega
          · rw [if_neg h3] at hR
            subst hR
            have i2 : ¬ (k : Int) + 1 < (s.size : Int) := by omega
            clear h1 h2
            go_wp2_with fail
            refine (HN.out _ (by repeat (first | exact hc | apply Cur.drawN | apply Cur.drew | apply Cur.set))).mono ?_
            rintro e w2 ⟨rfl, hc2, hg2⟩
            have h_ := hc2
            obtain ⟨c0, c1, f0, f1, lt⟩ := h_
            go_wp2_with fail
            refine (HN.out _ (by repeat (first | exact hc2 | apply Cur.drawN | apply Cur.drew | apply Cur.set))).mono ?_
            rintro e w3 ⟨rfl, hc3, hg3⟩
            have h_ := hc3
            obtain ⟨c0, c1, f0, f1, lt⟩ := h_
            go_wp2_with fail
            have hc4 := Cur.setI hc3 ((k : Int) + 1) (k + 1) (by omega)
            refine wp_region_held_drew (S := fun w' => w'.cell? ⟨b, 0, none⟩ = some (.string s) ∧ w'.cell? ⟨b, 1, none⟩ = some (.int .i64 ((k : Int) + 1))) (by kernel_rfl) ⟨by simpa using (hc4).c0, by simpa using (hc4).c1⟩ (fun hHeld => ?_)
            refine wpAnyH_take (i := 0) (oi := { dst := some 29, op := _, type := _, pos := _, after := _, guard := _ }) (v := .pointer (some ⟨b, 0, none⟩)) rfl (by kernel_rfl) (by kernel_rfl) (by kernel_rfl) (fun _ _ _ h => h) (Or.inl ⟨by rfl, by (intro w hSw; (try dsimp only at hSw); first | (go_simp; done) | (go_simp; with_reducible rfl) | (go_simp; omega) | (go_simp; simp [*]; done))⟩) (by assumption) ?_; try simp only [Act.put, List.setIfInBounds_toArray, List.set_cons_zero, List.set_cons_succ]
            refine wpAnyH_take (i := 1) (oi := { dst := some 30, op := _, type := _, pos := _, after := _, guard := _ }) (v := .pointer (some ⟨b, 0, none⟩)) rfl (by kernel_rfl) (by kernel_rfl) (by kernel_rfl) (fun _ _ _ h => h) (Or.inl ⟨by rfl, by (intro w hSw; (try dsimp only at hSw); first | (go_simp; done) | (go_simp; with_reducible rfl) | (go_simp; omega) | (go_simp; simp [*]; done))⟩) (by assumption) ?_; try simp only [Act.put, List.setIfInBounds_toArray, List.set_cons_zero, List.set_cons_succ]
            refine wpAnyH_take (i := 2) (oi := { dst := some 31, op := _, type := _, pos := _, after := _, guard := _ }) (v := .pointer (some ⟨b, 1, none⟩)) rfl (by kernel_rfl) (by kernel_rfl) (by kernel_rfl) (fun _ _ _ h => h) (Or.inl ⟨by rfl, by (intro w hSw; (try dsimp only at hSw); first | (go_simp; done) | (go_simp; with_reducible rfl) | (go_simp; omega) | (go_simp; simp [*]; done))⟩) (by assumption) ?_; try simp only [Act.put, List.setIfInBounds_toArray, List.set_cons_zero, List.set_cons_succ]
            refine wpAnyH_take (i := 3) (oi := { dst := some 32, op := _, type := _, pos := _, after := _, guard := _ }) (v := .int .i64 ((k : Int) + 1)) rfl (by kernel_rfl) (by kernel_rfl) (by kernel_rfl) (fun _ _ _ h => h) (Or.inl ⟨by rfl, by (intro w hSw; (try dsimp only at hSw); first | (go_simp; done) | (go_simp; with_reducible rfl) | (go_simp; omega) | (go_simp; simp [*]; done))⟩) (by assumption) ?_; try simp only [Act.put, List.setIfInBounds_toArray, List.set_cons_zero, List.set_cons_succ]
            refine wpAnyH_take (i := 4) (oi := { dst := some 33, op := _, type := _, pos := _, after := _, guard := _ }) (v := .pointer (some ⟨b, 0, none⟩)) rfl (by kernel_rfl) (by kernel_rfl) (by kernel_rfl) (fun _ _ _ h => h) (Or.inl ⟨by rfl, by (intro w hSw; (try dsimp only at hSw); first | (go_simp; done) | (go_simp; with_reducible rfl) | (go_simp; omega) | (go_simp; simp [*]; done))⟩) (by assumption) ?_; try simp only [Act.put, List.setIfInBounds_toArray, List.set_cons_zero, List.set_cons_succ]
            refine wpAnyH_take (i := 5) (oi := { dst := some 34, op := _, type := _, pos := _, after := _, guard := _ }) (v := .pointer (some ⟨b, 0, none⟩)) rfl (by kernel_rfl) (by kernel_rfl) (by kernel_rfl) (fun _ _ _ h => h) (Or.inl ⟨by rfl, by (intro w hSw; (try dsimp only at hSw); first | (go_simp; done) | (go_simp; with_reducible rfl) | (go_simp; omega) | (go_simp; simp [*]; done))⟩) (by assumption) ?_; try simp only [Act.put, List.setIfInBounds_toArray, List.set_cons_zero, List.set_cons_succ]
            refine wpAnyH_take (i := 6) (oi := { dst := some 35, op := _, type := _, pos := _, after := _, guard := _ }) (v := .pointer (some ⟨b, 0, none⟩)) rfl (by kernel_rfl) (by kernel_rfl) (by kernel_rfl) (fun _ _ _ h => h) (Or.inl ⟨by rfl, by (intro w hSw; (try dsimp only at hSw); first | (go_simp; done) | (go_simp; with_reducible rfl) | (go_simp; omega) | (go_simp; simp [*]; done))⟩) (by assumption) ?_; try simp only [Act.put, List.setIfInBounds_toArray, List.set_cons_zero, List.set_cons_succ]
            refine wpAnyH_take (i := 7) (oi := { dst := some 36, op := _, type := _, pos := _, after := _, guard := _ }) (v := .string s) rfl (by kernel_rfl) (by kernel_rfl) (by kernel_rfl) (fun _ _ _ h => h) (Or.inl ⟨by rfl, by (intro w hSw; (try dsimp only at hSw); first | (go_simp; done) | (go_simp; with_reducible rfl) | (go_simp; omega) | (go_simp; simp [*]; done))⟩) (by assumption) ?_; try simp only [Act.put, List.setIfInBounds_toArray, List.set_cons_zero, List.set_cons_succ]
            refine wpAnyH_take (i := 8) (oi := { dst := some 37, op := _, type := _, pos := _, after := _, guard := _ }) (v := .int .i64 s.size) rfl (by kernel_rfl) (by kernel_rfl) (by kernel_rfl) (fun _ _ _ h => h) (Or.inl ⟨by rfl, by (intro w hSw; (try dsimp only at hSw); first | (go_simp; done) | (go_simp; with_reducible rfl) | (go_simp; omega) | (go_simp; simp [*]; done))⟩) (by assumption) ?_; try simp only [Act.put, List.setIfInBounds_toArray, List.set_cons_zero, List.set_cons_succ]
            refine wpAnyH_take (i := 9) (oi := { dst := some 38, op := _, type := _, pos := _, after := _, guard := _ }) (v := .bool false) rfl (by kernel_rfl) (by kernel_rfl) (by kernel_rfl) (fun _ _ _ h => h) (Or.inl ⟨by rfl, by (intro w hSw; (try dsimp only at hSw); first | (go_simp; done) | (go_simp; with_reducible rfl) | (go_simp; omega) | (go_simp; simp [*]; done))⟩) (by assumption) ?_; try simp only [Act.put, List.setIfInBounds_toArray, List.set_cons_zero, List.set_cons_succ]
            refine wpAnyH_ready (rs := [10]) (by kernel_rfl) (by simp) ?_
            refine AllReadyH.cons (o := { dst := some 39, op := _, type := _, pos := _, after := _, guard := _ }) rfl (fun K hK => ?_) AllReadyH.nil
            go_simp
            go_at_call 148
            refine (must_no _).mono ?_
            rintro e w5 ⟨rfl, rfl⟩
            exact ⟨rfl, rfl, (by repeat (first | exact World.grownBy.refl _ _ | apply grown_drawN | apply grown_drew | apply grown_set | exact (grown_trans hB (grown_trans hg2 hg3))))⟩
        · rw [if_neg h2] at hR
          have e2 : ((s[k].toNat : Int) == 92) = false := by rw [beq_eq_false_iff_ne]; omega
          have hR := Lib.hid hR
          clear h1 h2
          go_wp2_with fail
          refine (HN.out _ (by repeat (first | exact hc | apply Cur.drawN | apply Cur.drew | apply Cur.set))).mono ?_
          rintro e w2 ⟨rfl, hc2, hg2⟩
          have h_ := hc2
          obtain ⟨c0, c1, f0, f1, lt⟩ := h_
          go_wp2_with fail
          refine (HN.out _ (by repeat (first | exact hc2 | apply Cur.drawN | apply Cur.drew | apply Cur.set))).mono ?_
          rintro e w3 ⟨rfl, hc3, hg3⟩
          have h_ := hc3
          obtain ⟨c0, c1, f0, f1, lt⟩ := h_
          go_wp2_with fail
          go_quiet ((go_at_call 148; exact quiet_eq (must_yes _)))
          go_wp2
          have hc4 := Cur.setI (Cur.drawN hc3 nq) ((k : Int) + 1) (k + 1) (by omega)
          go_roundw
          case rel => exact ⟨k + 1, by omega, hc4, hR.out, (by repeat (first | exact World.grownBy.refl _ _ | apply grown_drawN | apply grown_drew | apply grown_set | exact (grown_trans hB (grown_trans hg2 hg3))))⟩
          case measure => rw [hp2, hc4.place]; omega
    · obtain rfl : k = s.size := by omega
      rw [qEnd, dif_neg (by omega)] at hR
      rw [nx_out hlt] at HN
      subst hR
      go_wp2_with fail
      refine (HN.out _ (by repeat (first | exact hc | apply Cur.drawN | apply Cur.drew | apply Cur.set))).mono ?_
      rintro e w2 ⟨rfl, hc2, hg2⟩
      have h_ := hc2
      obtain ⟨c0, c1, f0, f1, lt⟩ := h_
      go_wp2_with fail
      refine (HN.out _ (by repeat (first | exact hc2 | apply Cur.drawN | apply Cur.drew | apply Cur.set))).mono ?_
      rintro e w3 ⟨rfl, hc3, hg3⟩
      have h_ := hc3
      obtain ⟨c0, c1, f0, f1, lt⟩ := h_
      go_wp2_with fail
      refine wp_region_held_drew (S := fun w' => w'.cell? ⟨b, 0, none⟩ = some (.string s) ∧ w'.cell? ⟨b, 1, none⟩ = some (.int .i64 (s.size : Int))) (by kernel_rfl) ⟨by simpa using (hc3).c0, by simpa using (hc3).c1⟩ (fun hHeld => ?_)
      refine wpAnyH_take (i := 0) (oi := { dst := some 29, op := _, type := _, pos := _, after := _, guard := _ }) (v := .pointer (some ⟨b, 0, none⟩)) rfl (by kernel_rfl) (by kernel_rfl) (by kernel_rfl) (fun _ _ _ h => h) (Or.inl ⟨by rfl, by (intro w hSw; (try dsimp only at hSw); first | (go_simp; done) | (go_simp; with_reducible rfl) | (go_simp; omega) | (go_simp; simp [*]; done))⟩) (by assumption) ?_; try simp only [Act.put, List.setIfInBounds_toArray, List.set_cons_zero, List.set_cons_succ]
      refine wpAnyH_take (i := 1) (oi := { dst := some 30, op := _, type := _, pos := _, after := _, guard := _ }) (v := .pointer (some ⟨b, 0, none⟩)) rfl (by kernel_rfl) (by kernel_rfl) (by kernel_rfl) (fun _ _ _ h => h) (Or.inl ⟨by rfl, by (intro w hSw; (try dsimp only at hSw); first | (go_simp; done) | (go_simp; with_reducible rfl) | (go_simp; omega) | (go_simp; simp [*]; done))⟩) (by assumption) ?_; try simp only [Act.put, List.setIfInBounds_toArray, List.set_cons_zero, List.set_cons_succ]
      refine wpAnyH_take (i := 2) (oi := { dst := some 31, op := _, type := _, pos := _, after := _, guard := _ }) (v := .pointer (some ⟨b, 1, none⟩)) rfl (by kernel_rfl) (by kernel_rfl) (by kernel_rfl) (fun _ _ _ h => h) (Or.inl ⟨by rfl, by (intro w hSw; (try dsimp only at hSw); first | (go_simp; done) | (go_simp; with_reducible rfl) | (go_simp; omega) | (go_simp; simp [*]; done))⟩) (by assumption) ?_; try simp only [Act.put, List.setIfInBounds_toArray, List.set_cons_zero, List.set_cons_succ]
      refine wpAnyH_take (i := 3) (oi := { dst := some 32, op := _, type := _, pos := _, after := _, guard := _ }) (v := .int .i64 (s.size : Int)) rfl (by kernel_rfl) (by kernel_rfl) (by kernel_rfl) (fun _ _ _ h => h) (Or.inl ⟨by rfl, by (intro w hSw; (try dsimp only at hSw); first | (go_simp; done) | (go_simp; with_reducible rfl) | (go_simp; omega) | (go_simp; simp [*]; done))⟩) (by assumption) ?_; try simp only [Act.put, List.setIfInBounds_toArray, List.set_cons_zero, List.set_cons_succ]
      refine wpAnyH_take (i := 4) (oi := { dst := some 33, op := _, type := _, pos := _, after := _, guard := _ }) (v := .pointer (some ⟨b, 0, none⟩)) rfl (by kernel_rfl) (by kernel_rfl) (by kernel_rfl) (fun _ _ _ h => h) (Or.inl ⟨by rfl, by (intro w hSw; (try dsimp only at hSw); first | (go_simp; done) | (go_simp; with_reducible rfl) | (go_simp; omega) | (go_simp; simp [*]; done))⟩) (by assumption) ?_; try simp only [Act.put, List.setIfInBounds_toArray, List.set_cons_zero, List.set_cons_succ]
      refine wpAnyH_take (i := 5) (oi := { dst := some 34, op := _, type := _, pos := _, after := _, guard := _ }) (v := .pointer (some ⟨b, 0, none⟩)) rfl (by kernel_rfl) (by kernel_rfl) (by kernel_rfl) (fun _ _ _ h => h) (Or.inl ⟨by rfl, by (intro w hSw; (try dsimp only at hSw); first | (go_simp; done) | (go_simp; with_reducible rfl) | (go_simp; omega) | (go_simp; simp [*]; done))⟩) (by assumption) ?_; try simp only [Act.put, List.setIfInBounds_toArray, List.set_cons_zero, List.set_cons_succ]
      refine wpAnyH_take (i := 6) (oi := { dst := some 35, op := _, type := _, pos := _, after := _, guard := _ }) (v := .pointer (some ⟨b, 0, none⟩)) rfl (by kernel_rfl) (by kernel_rfl) (by kernel_rfl) (fun _ _ _ h => h) (Or.inl ⟨by rfl, by (intro w hSw; (try dsimp only at hSw); first | (go_simp; done) | (go_simp; with_reducible rfl) | (go_simp; omega) | (go_simp; simp [*]; done))⟩) (by assumption) ?_; try simp only [Act.put, List.setIfInBounds_toArray, List.set_cons_zero, List.set_cons_succ]
      refine wpAnyH_take (i := 7) (oi := { dst := some 36, op := _, type := _, pos := _, after := _, guard := _ }) (v := .string s) rfl (by kernel_rfl) (by kernel_rfl) (by kernel_rfl) (fun _ _ _ h => h) (Or.inl ⟨by rfl, by (intro w hSw; (try dsimp only at hSw); first | (go_simp; done) | (go_simp; with_reducible rfl) | (go_simp; omega) | (go_simp; simp [*]; done))⟩) (by assumption) ?_; try simp only [Act.put, List.setIfInBounds_toArray, List.set_cons_zero, List.set_cons_succ]
      refine wpAnyH_take (i := 8) (oi := { dst := some 37, op := _, type := _, pos := _, after := _, guard := _ }) (v := .int .i64 s.size) rfl (by kernel_rfl) (by kernel_rfl) (by kernel_rfl) (fun _ _ _ h => h) (Or.inl ⟨by rfl, by (intro w hSw; (try dsimp only at hSw); first | (go_simp; done) | (go_simp; with_reducible rfl) | (go_simp; omega) | (go_simp; simp [*]; done))⟩) (by assumption) ?_; try simp only [Act.put, List.setIfInBounds_toArray, List.set_cons_zero, List.set_cons_succ]
      refine wpAnyH_take (i := 9) (oi := { dst := some 38, op := _, type := _, pos := _, after := _, guard := _ }) (v := .bool false) rfl (by kernel_rfl) (by kernel_rfl) (by kernel_rfl) (fun _ _ _ h => h) (Or.inl ⟨by rfl, by (intro w hSw; (try dsimp only at hSw); first | (go_simp; done) | (go_simp; with_reducible rfl) | (go_simp; omega) | (go_simp; simp [*]; done))⟩) (by assumption) ?_; try simp only [Act.put, List.setIfInBounds_toArray, List.set_cons_zero, List.set_cons_succ]
      refine wpAnyH_ready (rs := [10]) (by kernel_rfl) (by simp) ?_
      refine AllReadyH.cons (o := { dst := some 39, op := _, type := _, pos := _, after := _, guard := _ }) rfl (fun K hK => ?_) AllReadyH.nil
      go_simp
      go_at_call 148
      refine (must_no _).mono ?_
      rintro e w5 ⟨rfl, rfl⟩
      exact ⟨rfl, rfl, (by repeat (first | exact World.grownBy.refl _ _ | apply grown_drawN | apply grown_drew | apply grown_set | exact (grown_trans hB (grown_trans hg2 hg3))))⟩
end Go.Proofs.YtijdghplfhfpaaaDoor.H

/- Lists of addresses: the reader's bare address: the walk. -/
namespace Go.Proofs.YtijdghplfhfpaaaDoor.H
open Go.RowKit Go.Proofs.YtijdghplfhfpaaaDoorW.PrintWords Go.Proofs.YtijdghplfhfpaaaDoorW.PrintLast Go.Proofs.YtijdghplfhfpaaaDoor.U
set_option linter.unusedVariables false
set_option linter.unusedSimpArgs false
def okAddr (a b : ByteArray) : Bool := decide (addrFault a b = 0)
/-- A method that hands back an address and ends at a place, or panics by who.must. -/
def PostB (w : World) (b : Nat) (s : ByteArray) (R : Option (AAddress × Nat)) (e : Ending) (w' : World) : Prop :=
  match R with
  | some (a, d) => e = .returned (.agg #[.string a.loc, .string a.dom]) ∧ Cur w' b s d ∧ w.grownBy w' (some b)
  | none => e = .panicked mustP ∧ w.grownBy w' (some b)
set_option maxHeartbeats 1000000 in
set_option maxRecDepth 100000 in
theorem rbare_calls (b : Nat) (s loc : ByteArray) (i : Nat) (m : Int) (w : World) (hc : Cur w b s i) (hi : i ≤ s.size) (hs : s.size ≤ 1048576) (hl : loc.size ≤ 1048576) (hm : w.cell? ⟨6, 0, none⟩ = some (.int .i64 m)) (hg : 6 < b) :
    Calls Tryd.prog 186 #[.pointer (some ⟨b, 0, none⟩), .string loc] w (PostB w b s (bareP okAddr s i loc)) := by
  generalize hR : bareP okAddr s i loc = R
  unfold bareP at hR
  have HN := Lib.hid (fun W hc => rnext_cur b s i W hc hi (by omega))
  have ltb := hc.lt
  have hgw : 6 < w.heap.size := by omega
  by_cases h1 : nx s i = 64
  · rw [if_pos h1] at hR
    have hlt := nx_lt (s := s) (i := i) (by rw [h1]; decide)
    have HRn := Lib.hid (fun W hc => rrun_calls b s (i + 1) W hc hlt (by omega))
    have hd := span_le runB s (i + 1) (by omega)
    rw [h1] at HN
    generalize spanEnd runB s (i + 1) = d at *
    have hz : (s.extract (i + 1) d).size ≤ 1048576 := by rw [ext_size hd]; omega
    have HC := fun W hm hg => check_calls loc (s.extract (i + 1) d) m W hl hz hm hg
    unfold okAddr at hR
    generalize addrFault loc (s.extract (i + 1) d) = f at *
    generalize s.extract (i + 1) d = dom at *
    have HC := Lib.hid HC
    go_enter Tryd.func186, Tryd.ntmps186
    go_wp2_with fail
    refine (HN.out _ (hc.alloc _)).mono ?_
    rintro e w2 ⟨rfl, hc2, hg2⟩
    have k2 := (Blk.made w #[.string ⟨#[]⟩, .string ⟨#[]⟩] 49).grown hg2 (by first | (simp; done) | (simp; omega) | omega)
    have m2 := grown_cell hg2 (cell_alloc hm hgw _) (by first | (simp; done) | (simp; omega) | omega) (by first | (simp; done) | (simp; omega) | omega)
    have z2 := hg2.size
    simp at z2
    go_wp2_with fail
    refine (must_yes _).mono ?_
    rintro e w2' ⟨rfl, rfl⟩
    have hc3 := hc2.setI ((i : Int) + 1) (i + 1) (by omega)
    have k3 := k2.other (c := b) (j := 1) (by omega) (.int .i64 ((i : Int) + 1))
    have m3 := cell_other (c := b) (j := 1) m2 (by omega) (.int .i64 ((i : Int) + 1))
    obtain ⟨c0, c1, f0, f1, lt2⟩ := hc2
    go_wp2_with fail
    refine (HRn.out _ hc3).mono ?_
    rintro e w3 ⟨rfl, hc4, hg4⟩
    have k4 := k3.grown hg4 (by first | (simp; done) | (simp; omega) | omega)
    have m4 := grown_cell hg4 m3 (by first | (simp; done) | (simp; omega) | omega) (by first | (simp; done) | (simp; omega) | omega)
    have z4 := hg4.size
    simp at z4
    go_wp2_with fail
    refine (HC.out _ (cell_alloc m4 (by omega) _) (by first | (simp; done) | (simp; omega) | omega)).mono ?_
    rintro e w5 ⟨rfl, hb5⟩
    have k5 := (k4.alloc (.cells #[.string loc, .string dom] 49)).below hb5 (by first | (simp; done) | (simp; omega) | omega)
    have l5 := (Blk.made w3 #[.string loc, .string dom] 49).below hb5 (by simp)
    have hc5 := (hc4.alloc (.cells #[.string loc, .string dom] 49)).below hb5 (by first | (simp; done) | (simp; omega) | omega)
    have z5 := hb5.size
    simp at z5
    have gg : w.grownBy w5 (some b) := grown_more (w1 := w3.alloc (.cells #[.string loc, .string dom] 49)) (grown_alloc (grown_trans (grown_set (grown_trans (grown_alloc (World.grownBy.refl _ _) _) hg2) _ _) hg4) _) hb5 (by first | (simp; done) | (simp; omega) | omega)
    have q0 := k5.at 0 _ rfl
    have q1 := k5.at 1 _ rfl
    have p0 := k5.free 0 _ rfl
    have p1 := k5.free 1 _ rfl
    have r0 := l5.at 0 _ rfl
    have r1 := l5.at 1 _ rfl
    by_cases hf : f = 0
    · subst hf
      simp at hR
      subst hR
      go_wp2_with fail
      refine (must_yes _).mono ?_
      rintro e w2' ⟨rfl, rfl⟩
      go_wp2_with fail
      refine bodyPost_ret (v := .agg #[.string loc, .string dom]) (by simp [results, Tryd.results186, go_sem, *]) rfl ?_
      exact ⟨rfl, ((hc5.other (by first | (simp; done) | (simp; omega) | omega) _).other (by first | (simp; done) | (simp; omega) | omega) _), (by repeat (first | exact World.grownBy.refl _ _ | apply grown_drawN | apply grown_drew | apply grown_set | apply grown_alloc | (refine grown_new ?_ (by first | (simp; done) | (simp; omega) | omega) _ _) | exact gg))⟩
    · simp [hf] at hR
      subst hR
      have e1 : (f == 0) = false := by rw [beq_eq_false_iff_ne]; exact hf
      go_wp2_with fail
      refine (must_no _).mono ?_
      rintro e w2' ⟨rfl, rfl⟩
      go_wp2_with fail
      exact ⟨rfl, rfl, gg⟩
  · rw [if_neg h1] at hR
    subst hR
    have e1 : (nx s i == 64) = false := by rw [beq_eq_false_iff_ne]; exact h1
    clear h1
    generalize nx s i = x at *
    go_enter Tryd.func186, Tryd.ntmps186
    go_wp2_with fail
    refine (HN.out _ (hc.alloc _)).mono ?_
    rintro e w2 ⟨rfl, hc2, hg2⟩
    go_wp2_with fail
    refine (must_no _).mono ?_
    rintro e w2' ⟨rfl, rfl⟩
    go_wp2_with fail
    exact ⟨rfl, rfl, grown_trans (grown_alloc (World.grownBy.refl _ _) _) hg2⟩
end Go.Proofs.YtijdghplfhfpaaaDoor.H

/- An address in < and >: what the program asks of it and what the reference asks are the same. No program in sight. -/
namespace Go.Proofs.YtijdghplfhfpaaaDoor.H
set_option linter.unusedVariables false
set_option linter.unusedSimpArgs false
/-- The first '@' of a text from a place on parts it. -/
def angGo (t : ByteArray) (i : Nat) : Option AAddress :=
  if h : i < t.size then
    if t[i].toNat = 64 then (if addrFault (t.extract 0 i) (t.extract (i + 1) t.size) = 0 then some ⟨t.extract 0 i, t.extract (i + 1) t.size⟩ else none)
    else angGo t (i + 1)
  else none
termination_by t.size - i
def angV (s : ByteArray) : Option AAddress :=
  if 2 ≤ s.size ∧ nx s 0 = 60 ∧ nx s (s.size - 1) = 62 then angGo (s.extract 1 (s.size - 1)) 0 else none
theorem byte_ext {a b : ByteArray} (h : a.data.toList = b.data.toList) : a = b := ByteArray.ext (Array.toList_inj.mp h)
theorem size_list (s : ByteArray) : s.size = s.data.toList.length := by rw [Array.length_toList]; rfl
theorem get_list (s : ByteArray) (i : Nat) (h : i < s.size) : s.data.toList[i]? = some s[i] := by
  rw [List.getElem?_eq_getElem (by rw [← size_list]; exact h), Array.getElem_toList]; rfl
theorem nx_list (s : ByteArray) (i : Nat) : nx s i = (s.data.toList[i]?.map (fun c : UInt8 => (c.toNat : Int))).getD 0 := by
  by_cases h : i < s.size
  · rw [nx_in h, get_list s i h]; rfl
  · rw [nx_out h, List.getElem?_eq_none (by rw [← size_list]; omega)]; rfl
theorem span_list (p : Int → Bool) (s : ByteArray) : ∀ n i, s.size - i = n → spanEnd p s i = i + ((s.data.toList.drop i).takeWhile (fun c => p c.toNat)).length := by
  intro n
  induction n with
  | zero => intro i h; rw [spanEnd_end p (by omega), List.drop_eq_nil_of_le (by rw [← size_list]; omega)]; rfl
  | succ n ih =>
    intro i h
    have hlt : i < s.size := by omega
    have hd : s.data.toList.drop i = s[i] :: s.data.toList.drop (i + 1) := by
      rw [List.drop_eq_getElem_cons (by rw [← size_list]; exact hlt), Array.getElem_toList]; rfl
    rw [hd, List.takeWhile_cons]
    cases hp : p s[i].toNat with
    | false => rw [spanEnd_no p hlt hp]; simp
    | true => rw [spanEnd_yes p hlt hp, ih (i + 1) (by omega)]; simp; omega
theorem ext_list (s : ByteArray) (i j : Nat) : (s.extract i j).data.toList = (s.data.toList.drop i).take (j - i) := by
  rw [ByteArray.data_extract, Array.toList_extract, List.extract_eq_take_drop]
theorem scan_all : ∀ (l : List UInt8) (b : Bool), scanB b l = true → ∀ c ∈ l, runB c.toNat = true
  | [], _, _, c, hc => nomatch hc
  | x :: r, b, h, c, hc => by
    rw [scanB] at h
    rcases List.mem_cons.mp hc with rfl | hc
    · split at h
      · rename_i hx; rw [hx]; decide
      · simp at h; simp [runB, h.1]
    · split at h
      · simp at h; exact scan_all r true h.2 c hc
      · simp at h; exact scan_all r false h.2 c hc
theorem okAddr_run {a b : ByteArray} (h : okAddr a b = true) : (∀ c ∈ a.data.toList, runB c.toNat = true) ∧ ∀ c ∈ b.data.toList, runB c.toNat = true := by
  unfold okAddr addrFault at h
  split at h
  · rename_i hd; exact ⟨scan_all _ _ hd.1, scan_all _ _ hd.2⟩
  · simp at h
theorem run_take {p : UInt8 → Bool} {l r : List UInt8} {c : UInt8} (h : ∀ x ∈ l, p x = true) (hc : p c = false) : (l ++ c :: r).takeWhile p = l := by
  rw [List.takeWhile_append_of_pos h, List.takeWhile_cons, hc]; simp
/-- The text of an address in < and >. -/
def angT (a b : ByteArray) : List UInt8 := 60 :: (a.data.toList ++ 64 :: (b.data.toList ++ [62]))
theorem list_ang {a b s : ByteArray} (hs : s.data.toList = angT a b) (h : okAddr a b = true) : listP okAddr s 0 = some [⟨a, b⟩] := by
  obtain ⟨hA, hB⟩ := okAddr_run h
  unfold angT at hs
  obtain ⟨A, hAe⟩ : ∃ A, a.data.toList = A := ⟨_, rfl⟩
  obtain ⟨B, hBe⟩ : ∃ B, b.data.toList = B := ⟨_, rfl⟩
  have la : a.size = A.length := by rw [size_list, hAe]
  have lb : b.size = B.length := by rw [size_list, hBe]
  rw [hAe, hBe] at hs
  rw [hAe] at hA
  rw [hBe] at hB
  have hz : s.size = A.length + B.length + 3 := by rw [size_list, hs]; simp; omega
  have e0 : spanEnd blankB s 0 = 0 := by
    rw [span_list _ _ _ 0 rfl, hs]
    simp [blankB]
  have n0 : nx s 0 = 60 := by rw [nx_list, hs]; rfl
  have e1 : spanEnd runB s 1 = A.length + 1 := by
    rw [span_list _ _ _ 1 rfl, hs]
    show 1 + ((A ++ 64 :: (B ++ [62])).takeWhile _).length = _
    rw [run_take hA (by decide)]; omega
  have n1 : nx s (A.length + 1) = 64 := by
    rw [nx_list, hs]
    have : (60 :: (A ++ 64 :: (B ++ [62])))[A.length + 1]? = some 64 := by simp
    rw [this]; rfl
  have dr : (60 :: (A ++ 64 :: (B ++ [62]))).drop (A.length + 1 + 1) = B ++ 62 :: [] := by simp [List.drop_append]
  have e2 : spanEnd runB s (A.length + 1 + 1) = A.length + B.length + 2 := by
    rw [span_list _ _ _ _ rfl, hs]
    rw [dr, run_take hB (by decide)]; omega
  have n2 : nx s (A.length + B.length + 2) = 62 := by
    rw [nx_list, hs]
    have : (60 :: (A ++ 64 :: (B ++ [62])))[A.length + B.length + 2]? = some 62 := by
      rw [show A.length + B.length + 2 = A.length + 1 + 1 + B.length by omega, ← List.getElem?_drop, dr]
      simp
    rw [this]; rfl
  have x1 : s.extract 1 (A.length + 1) = a := byte_ext (by rw [ext_list, hs, hAe]; simp)
  have x2 : s.extract (A.length + 1 + 1) (A.length + B.length + 2) = b := byte_ext (by
    rw [ext_list, hs, hBe]
    rw [dr, show A.length + B.length + 2 - (A.length + 1 + 1) = B.length by omega]; simp)
  have hp : angP okAddr s 0 = some (⟨a, b⟩, A.length + B.length + 3) := by
    unfold angP bareP
    rw [show 0 + 1 = 1 from rfl, e1, n1, x1, e2, x2]
    simp [h, n2]
  have ha : addrP okAddr s 0 true = some (⟨a, b⟩, A.length + B.length + 3) := by
    rw [addrP, e0, n0]; simp [hp]
  rw [listP, ha]
  simp only
  rw [spanEnd_end _ (by omega), if_neg (by omega)]
theorem bare_ok {ok : ByteArray → ByteArray → Bool} {s loc : ByteArray} {e d : Nat} {a : AAddress} (h : bareP ok s e loc = some (a, d)) : ok a.loc a.dom = true := by
  unfold bareP at h
  split at h
  · split at h
    · rename_i h2; cases h; exact h2
    · cases h
  · cases h
theorem ang_ok {ok : ByteArray → ByteArray → Bool} {s : ByteArray} {i d : Nat} {a : AAddress} (h : angP ok s i = some (a, d)) : ok a.loc a.dom = true := by
  unfold angP at h
  split at h
  · rename_i a' d' h2
    split at h
    · cases h; exact bare_ok h2
    · cases h
  · cases h
theorem addr_ok {ok : ByteArray → ByteArray → Bool} {s : ByteArray} : ∀ n i f a d, s.size - i ≤ n → addrP ok s i f = some (a, d) → ok a.loc a.dom = true := by
  intro n
  induction n with
  | zero =>
    intro i f a d hn h
    rw [addrP] at h
    split at h
    · split at h
      · split at h
        · omega
        · cases h
      · cases h
    · split at h
      · exact ang_ok h
      · split at h
        · exact bare_ok h
        · split at h
          · omega
          · cases h
  | succ n ih =>
    intro i f a d hn h
    rw [addrP] at h
    split at h
    · split at h
      · split at h
        · exact ih _ _ _ _ (by omega) h
        · cases h
      · cases h
    · split at h
      · exact ang_ok h
      · split at h
        · exact bare_ok h
        · split at h
          · exact ih _ _ _ _ (by omega) h
          · cases h
theorem list_one_ok {ok : ByteArray → ByteArray → Bool} {s : ByteArray} {a : AAddress} (h : listP ok s 0 = some [a]) : ok a.loc a.dom = true := by
  rw [listP] at h
  split at h
  · rename_i a' j h2
    have := addr_ok _ _ _ _ _ (Nat.le_refl _) h2
    split at h
    · split at h
      · rw [Option.map_eq_some_iff] at h
        obtain ⟨l, _, hl⟩ := h
        cases hl; exact this
      · cases h
    · cases h; exact this
  · cases h
theorem angGo_skip (t : ByteArray) (k : Nat) : ∀ n i, k - i = n → i ≤ k → k ≤ t.size → (∀ j (hj : j < t.size), i ≤ j → j < k → t[j].toNat ≠ 64) → angGo t i = angGo t k := by
  intro n
  induction n with
  | zero => intro i h1 h2 h3 h4; rw [show i = k by omega]
  | succ n ih =>
    intro i h1 h2 h3 h4
    rw [angGo, dif_pos (by omega), if_neg (h4 i (by omega) (by omega) (by omega))]
    exact ih (i + 1) (by omega) (by omega) h3 fun j hj a b => h4 j hj (by omega) b
theorem angGo_some (t : ByteArray) (a : AAddress) : ∀ n i, t.size - i = n → angGo t i = some a → t.data.toList = a.loc.data.toList ++ 64 :: a.dom.data.toList ∧ okAddr a.loc a.dom = true := by
  intro n
  induction n with
  | zero => intro i h1 h; rw [angGo, dif_neg (by omega)] at h; cases h
  | succ n ih =>
    intro i h1 h
    rw [angGo, dif_pos (by omega)] at h
    split at h
    · rename_i h64
      split at h
      · rename_i hf
        cases h
        refine ⟨?_, by simp [okAddr, hf]⟩
        rw [ext_list, ext_list]
        have hlt : i < t.size := by omega
        have hd : t.data.toList.drop i = t[i] :: t.data.toList.drop (i + 1) := by
          rw [List.drop_eq_getElem_cons (by rw [← size_list]; exact hlt), Array.getElem_toList]; rfl
        have h6 : t[i] = 64 := UInt8.toNat_inj.mp h64
        rw [h6] at hd
        conv => lhs; rw [← List.take_append_drop i t.data.toList, hd]
        congr 2
        rw [List.take_of_length_le]
        rw [List.length_drop, ← size_list]; exact Nat.le_refl _
      · cases h
    · exact ih (i + 1) (by omega) h
/-- The reference finds an address, just where the program reads one and shows it as the text is. -/
theorem ang_law (s : ByteArray) (a : AAddress) : angV s = some a ↔ (listP okAddr s 0 = some [a] ∧ s.data.toList = angT a.loc a.dom) := by
  constructor
  · intro h
    unfold angV at h
    split at h
    · rename_i h1
      obtain ⟨h2, h3, h4⟩ := h1
      obtain ⟨h5, h6⟩ := angGo_some _ _ _ 0 rfl h
      have hs : s.data.toList = angT a.loc a.dom := by
        rw [ext_list] at h5
        rw [nx_list] at h3 h4
        have hz := size_list s
        generalize s.data.toList = S at *
        rw [hz] at h2 h4 h5
        cases S with
        | nil => simp at h2
        | cons c r =>
          have hc : c = 60 := by simp at h3; exact UInt8.toNat_inj.mp (by show c.toNat = 60; omega)
          rcases List.eq_nil_or_concat r with rfl | ⟨q, d, rfl⟩
          · simp at h2
          · have hd : d = 62 := by simp at h4; exact UInt8.toNat_inj.mp (by show d.toNat = 62; omega)
            subst hc hd
            simp at h5
            simp [angT, h5]
      exact ⟨list_ang hs h6, hs⟩
    · cases h
  · rintro ⟨h1, hs⟩
    have hok := list_one_ok h1
    obtain ⟨hA, hB⟩ := okAddr_run hok
    obtain ⟨a, b⟩ := a
    simp only at hA hB hok hs
    unfold angT at hs
    obtain ⟨A, hAe⟩ : ∃ A, a.data.toList = A := ⟨_, rfl⟩
    obtain ⟨B, hBe⟩ : ∃ B, b.data.toList = B := ⟨_, rfl⟩
    have la : a.size = A.length := by rw [size_list, hAe]
    have lb : b.size = B.length := by rw [size_list, hBe]
    rw [hAe, hBe] at hs
    rw [hAe] at hA
    rw [hBe] at hB
    have hz : s.size = A.length + B.length + 3 := by rw [size_list, hs]; simp; omega
    have n0 : nx s 0 = 60 := by rw [nx_list, hs]; rfl
    have n2 : nx s (s.size - 1) = 62 := by
      rw [nx_list, hs, hz]
      have : (60 :: (A ++ 64 :: (B ++ [62])))[A.length + B.length + 3 - 1]? = some 62 := by
        rw [show A.length + B.length + 3 - 1 = A.length + 1 + 1 + B.length by omega, ← List.getElem?_drop]
        simp [List.drop_append]
      rw [this]; rfl
    have ht : (s.extract 1 (s.size - 1)).data.toList = A ++ 64 :: B := by
      rw [ext_list, hs, hz, show A.length + B.length + 3 - 1 - 1 = (A ++ 64 :: B).length by simp; omega, show (60 :: (A ++ 64 :: (B ++ [62]))).drop 1 = (A ++ 64 :: B) ++ [62] by simp]
      exact List.take_left'  rfl
    rw [angV, if_pos ⟨by omega, n0, n2⟩]
    generalize s.extract 1 (s.size - 1) = t at *
    have tz : t.size = A.length + B.length + 1 := by rw [size_list, ht]; simp; omega
    have tg : ∀ (j : Nat) (hj : j < t.size), (A ++ 64 :: B)[j]? = some t[j] := fun j hj => by rw [← ht]; exact get_list t j hj
    rw [angGo_skip t A.length _ 0 rfl (by omega) (by omega) (fun j hj _ hk h64 => by
      have h7 := tg j hj
      rw [List.getElem?_append_left hk, List.getElem?_eq_getElem hk] at h7
      have h8 := hA _ (List.getElem_mem hk)
      rw [Option.some.inj h7, h64] at h8
      revert h8; decide)]
    have h6 : t[A.length]'(by omega) = 64 := by
      have h7 := tg A.length (by omega)
      simp at h7
      exact h7.symm
    have x1 : t.extract 0 A.length = a := byte_ext (by rw [ext_list, ht, hAe]; simp)
    have x2 : t.extract (A.length + 1) t.size = b := byte_ext (by
      rw [ext_list, ht, hBe, tz, show A.length + B.length + 1 - (A.length + 1) = B.length by omega, List.drop_append, List.drop_eq_nil_of_le (by omega)]; simp)
    rw [angGo, dif_pos (by omega), if_pos (by rw [h6]; rfl), x1, x2, if_pos (by simpa [okAddr] using hok)]
end Go.Proofs.YtijdghplfhfpaaaDoor.H

/- The walks of the functions that fold letters. -/
namespace Go.Proofs.YtijdghplfhfpaaaDoor.H
open Go.RowKit Go.Proofs.YtijdghplfhfpaaaDoorW.PrintWords Go.Proofs.YtijdghplfhfpaaaDoorW.PrintLast Go.Proofs.YtijdghplfhfpaaaDoor.U
set_option linter.unusedVariables false
set_option linter.unusedSimpArgs false
def sm (a : Int) : Int := if 65 ≤ a ∧ a ≤ 90 then a + 32 else a
/-- The small letters of a text. -/
def lowS (s : ByteArray) : ByteArray := strOfNums ((bytesOf s).map sm)
theorem bytesOf_get (s : ByteArray) (k : Nat) (h : k < s.size) : (bytesOf s)[k]? = some (s[k].toNat : Int) := by
  simp [bytesOf, h]
  rfl
theorem rd_bytes (s : ByteArray) (k : Nat) : 0 ≤ rd (bytesOf s) (k : Int) ∧ rd (bytesOf s) (k : Int) ≤ 255 := by
  rw [rd, Int.toNat_natCast, List.getD_eq_getElem?_getD]
  rcases Nat.lt_or_ge k s.size with h | h
  · rw [bytesOf_get s k h]; have := s[k].toNat_lt; simp; omega
  · rw [List.getElem?_eq_none (by rw [bytesOf_length]; exact h)]; simp
theorem bytesOf_rd (s : ByteArray) (k : Nat) (h : k < s.size) : rd (bytesOf s) (k : Int) = ((s.data.toList.getD k 0).toNat : Int) := by
  rw [rd, Int.toNat_natCast, List.getD_eq_getElem?_getD, bytesOf_get s k h]
  simp [List.getD_eq_getElem?_getD, h]
  rfl
theorem bytesWorld_below (w : World) (e : Nat) (s : ByteArray) : Below w.heap.size w (Lib.bytesWorld w e s) :=
  ⟨rfl, rfl, rfl, by rw [Lib.bytesWorld_size]; omega, fun i hi => Lib.bytesWorld_at_old w e s i hi⟩
theorem small_calls (a : Int) (w : World) (h0 : 0 ≤ a) (h1 : a ≤ 255) : Calls Tryd.prog 196 #[.int .u8 a] w fun e w' => e = .returned (.int .u8 (sm a)) ∧ w = w' := by
  rcases (by omega : a < 65 ∨ (65 ≤ a ∧ a ≤ 90) ∨ 90 < a) with h | ⟨h, h2⟩ | h
  all_goals
    go_enter Tryd.func196, Tryd.ntmps196
    go_wp2
    go_ret
    exact ⟨by simp [sm]; omega, rfl⟩
set_option maxHeartbeats 1000000 in
set_option maxRecDepth 100000 in
theorem lower_calls (s : ByteArray) (w : World) (hs : s.size ≤ 140737488351232) : Calls Tryd.prog 109 #[.string s] w fun e w' => e = .returned (.string (lowS s)) ∧ Below w.heap.size w w' := by
  have hlen := bytesOf_length s
  go_enter Tryd.func109, Tryd.ntmps109
  go_wp2
  go_loopw [3, 4] (fun v i wr => ∃ k : Nat, k ≤ s.size ∧ i = .int .i64 k ∧ Kd.R (Kd.int .u8) 5 wr w.heap.size (fun _ => True) v (((bytesOf s).take k).map sm) ∧ Below w.heap.size w wr) (fun _ i _ => s.size - (intOf i).toNat)
  case atStart => exact ⟨0, Nat.zero_le _, rfl, by simpa using Kd.R_nil _ _ _ _ _, Below.refl _ _⟩
  case round =>
    obtain ⟨k, hk, rfl, hR, hB⟩ := hrel
    by_cases hlt : k < s.size
    · have hg := bytesOf_get s k hlt
      have hsz : (((bytesOf s).take k).map sm).length ≤ k := by simp; omega
      have hts : ((bytesOf s).take (k + 1)).map sm = ((bytesOf s).take k).map sm ++ [sm (s[k].toNat : Int)] := by
        rw [List.take_add_one, hg]; simp
      have HT := Lib.hid hts
      clear hts hg
      have b0 := (s[k]).toNat_lt
      by_cases hq : 65 ≤ s[k].toNat ∧ s[k].toNat ≤ 90
      · obtain ⟨q1, q2⟩ := hq
        have hsm : sm (s[k].toNat : Int) = (s[k].toNat : Int) + 32 := by unfold sm; rw [if_pos (by omega)]
        rw [hsm] at HT
        clear hsm
        go_wp2_with (first | (go_at_call 52; first | (refine (in_yes _ _ _ _ (by omega) (by omega)).mono ?_; rintro e w' ⟨rfl, rfl⟩) | (refine (in_no _ _ _ _ (by omega)).mono ?_; rintro e w' ⟨rfl, rfl⟩)) | (at_builtin; refine snoc_list rowU8 w.heap.size rfl _ _ rfl u3 (((bytesOf s).take k).map sm) ((s[k].toNat : Int) + 32) [.int .u8 ((s[k].toNat : Int) + 32)] rfl rfl rfl hR hB.size (by omega) ?_; intro v1 w1 hR1 hb1 hg1))
        go_roundw
        case rel => exact ⟨k + 1, by omega, by go_num, by rw [HT.out]; exact hR1, hB.trans hb1⟩
        case measure => simp [intOf]; omega
      · have hsm : sm (s[k].toNat : Int) = (s[k].toNat : Int) := by unfold sm; rw [if_neg (by omega)]
        rw [hsm] at HT
        clear hsm
        go_wp2_with (first | (go_at_call 52; first | (refine (in_yes _ _ _ _ (by omega) (by omega)).mono ?_; rintro e w' ⟨rfl, rfl⟩) | (refine (in_no _ _ _ _ (by omega)).mono ?_; rintro e w' ⟨rfl, rfl⟩)) | (at_builtin; refine snoc_list rowU8 w.heap.size rfl _ _ rfl u3 (((bytesOf s).take k).map sm) (s[k].toNat : Int) [.int .u8 (s[k].toNat : Int)] rfl rfl rfl hR hB.size (by omega) ?_; intro v1 w1 hR1 hb1 hg1))
        go_roundw
        case rel => exact ⟨k + 1, by omega, by go_num, by rw [HT.out]; exact hR1, hB.trans hb1⟩
        case measure => simp [intOf]; omega
    · obtain rfl : k = s.size := by omega
      rw [List.take_of_length_le (by omega)] at hR
      obtain ⟨A1, c1, rfl, hl1, hr1⟩ := C_of hR
      have hcv := Kd.C_string (P := Tryd.prog) (src := 215) (dst := 9) (c := c1) Tryd.underlying215 Tryd.underlying5 Tryd.underlying9 hr1
      simp only [List.length_map, hlen] at hcv
      go_wp2
      go_ret
      exact ⟨rfl, hB⟩
set_option maxHeartbeats 1000000 in
set_option maxRecDepth 100000 in
theorem fold_calls (s : ByteArray) (w : World) (hs : s.size ≤ 140737488351232) : Calls Tryd.prog 156 #[.string s] w fun e w' => e = .returned (.string (lowS s)) ∧ Below w.heap.size w w' := by
  have hlen := bytesOf_length s
  have hcv := fun W => Lib.run_convert_string_bytes (P := Tryd.prog) W 9 215 5 s Tryd.underlying9 Tryd.underlying215 Tryd.underlying5
  go_enter Tryd.func156, Tryd.ntmps156
  go_wp2
  have hb0 : Below w.heap.size w (Lib.bytesWorld w 5 s) := bytesWorld_below w _ s
  go_loopw [10] (fun i wr => ∃ k : Nat, k ≤ s.size ∧ i = .int .i64 k ∧ Below w.heap.size w wr ∧ (∀ j, j < s.size → wr.frozen? ⟨w.heap.size, j, none⟩ = false) ∧ ∀ j, j < s.size → wr.cell? ⟨w.heap.size, j, none⟩ = some (.int .u8 (if j < k then sm (rd (bytesOf s) j) else rd (bytesOf s) j))) (fun i _ => s.size - (intOf i).toNat)
  case atStart => exact ⟨0, Nat.zero_le _, rfl, hb0, fun j hj => by simp [World.frozen?, Lib.bytesWorld_at_new, Lib.bytesCells]; omega, fun j hj => by rw [Lib.bytesWorld_cell w _ s j hj, if_neg (Nat.not_lt_zero _), bytesOf_rd s j hj]⟩
  case round =>
    obtain ⟨k, hk, rfl, hB, hH, hc⟩ := hrel
    by_cases hlt : k < s.size
    · have hck := hc k hlt
      rw [if_neg (Nat.lt_irrefl k)] at hck
      have hfz : wr.frozen? ⟨w.heap.size, k, none⟩ = false := hH k hlt
      have b0 := rd_bytes s k
      have HC := Lib.hid hc
      have HH := Lib.hid hH
      clear hc hH
      generalize hx : rd (bytesOf s) (k : Int) = x at hck b0
      have HX := Lib.hid hx
      clear hx
      go_wp2_with (go_at_call 196; refine (small_calls _ _ b0.1 b0.2).mono ?_; rintro e w' ⟨rfl, rfl⟩)
      go_roundw
      case rel =>
        refine ⟨k + 1, by omega, by go_num, hB.setCell (p := ⟨w.heap.size, k, none⟩) (Nat.le_refl _) _, fun j hj => by rw [World.frozen?_setCell]; exact HH.out j hj, fun j hj => ?_⟩
        by_cases hjk : j = k
        · subst hjk
          rw [World.cell?_setCell_same' _ _ _ (by rw [hck]; rfl), if_pos (Nat.lt_succ_self _), HX.out]
        · rw [World.cell?_setCell_other _ _ _ _ (by intro h; injection h with _ h; exact hjk h.symm), HC.out j hj]
          by_cases hlt2 : j < k
          · rw [if_pos hlt2, if_pos (by omega)]
          · rw [if_neg hlt2, if_neg (by omega)]
      case measure => simp [intOf]; omega
    · obtain rfl : k = s.size := by omega
      have hr1 : (Kd.int .u8).C wr (some ⟨w.heap.size, 0, none⟩) ((bytesOf s).map sm).length ((bytesOf s).map sm) := by
        refine ⟨rfl, by rw [List.length_map, hlen]; omega, fun _ => ⟨_, rfl, fun j p hj => ?_⟩⟩
        have hjl : j < s.size := by
          rcases Nat.lt_or_ge j s.size with h | h
          · exact h
          · rw [List.getElem?_eq_none (by rw [List.length_map, hlen]; exact h)] at hj; cases hj
        refine ⟨[.int .u8 p], rfl, rfl, fun i u hi => ?_⟩
        match i, hi with
        | 0, hi =>
          obtain rfl : Value.int .u8 p = u := by simpa using hi
          have h1 := hc j hjl
          rw [if_pos hjl] at h1
          rw [List.getElem?_map, bytesOf_get s j hjl] at hj
          obtain rfl : sm (s[j].toNat : Int) = p := by simpa using hj
          have h2 : rd (bytesOf s) (j : Int) = (s[j].toNat : Int) := by rw [rd, Int.toNat_natCast, List.getD_eq_getElem?_getD, bytesOf_get s j hjl]; rfl
          rw [h2] at h1
          have h3 : (⟨w.heap.size, 0, none⟩ : Addr).add (j * (Kd.int .u8).sz + 0) = ⟨w.heap.size, j, none⟩ := by rw [add_plain]; exact congrArg (fun x => (⟨w.heap.size, x, none⟩ : Addr)) (Nat.mul_one j)
          rw [h3]; exact h1
        | i + 1, hi => simp at hi
      have hcv := Kd.C_string (P := Tryd.prog) (src := 215) (dst := 9) (c := grownCap w s.size 0 5) Tryd.underlying215 Tryd.underlying5 Tryd.underlying9 hr1
      simp only [List.length_map, hlen] at hcv
      clear hc hH
      go_wp2
      go_ret
      exact ⟨rfl, hB⟩
def foldR (s : ByteArray) : ByteArray := if s.size ≤ 2000 then lowS s else ⟨#[]⟩
def foldE (s : ByteArray) : Int := if s.size ≤ 2000 then 0 else 1
theorem Fold_calls (s : ByteArray) (w : World) (hs : s.size ≤ 140737488351232) : Calls Tryd.prog 102 #[.string s] w fun e w' => e = .returned (.tuple #[.string (foldR s), .int .i64 (foldE s)]) ∧ Below w.heap.size w w' := by
  by_cases h : s.size ≤ 2000
  · rw [foldR, foldE, if_pos h, if_pos h]
    go_enter Tryd.func102, Tryd.ntmps102
    go_wp2_with fail
    refine (fold_calls s _ hs).mono ?_
    rintro e w1 ⟨rfl, hb1⟩
    go_wp2_with fail
    go_ret2
    exact ⟨rfl, hb1⟩
  · rw [foldR, foldE, if_neg h, if_neg h]
    go_enter Tryd.func102, Tryd.ntmps102
    go_wp2_with fail
    go_ret2
    exact ⟨rfl, Below.refl _ _⟩
end Go.Proofs.YtijdghplfhfpaaaDoor.H
