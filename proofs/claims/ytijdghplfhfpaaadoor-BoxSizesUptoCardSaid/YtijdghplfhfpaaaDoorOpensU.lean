/- What comes in as data is read, where what is read is of small bulk: from a reading of a type to the print's kinds, with the bulk's bounds. -/
import Derived.Test.YtijdghplfhfpaaaDoorU
import Derived.Test.YtijdghplfhfpaaaDoorRows
import Derived.ChangeArms
import Derived.Deep.Slices
import Derived.SizedLaws
import Derived.ProofKit
import Derived.ChangeOld
import Derived.Lib.SmallJoins
namespace Go.Proofs.YtijdghplfhfpaaaDoor.UB
open Go.ChangeMaps (open_string)
open Go.RowKit Go.Proofs.YtijdghplfhfpaaaDoorW.PrintWords Go.ChangeShapes Go.WideShapes Go.Proofs.YtijdghplfhfpaaaDoor.U
/-- How many values and letters a reading may hold. -/
abbrev bulkTop : Nat := 1048576

def OpensN (P : Program) {α : Type} (n : Nat) (t : TypeId) (d : Kd α) (ok : α → Prop) : Prop :=
  ∀ {H : Type} (enc : TypeId × Value → H) (W : World) (base : Nat) (spare : Nat → Bool) (held : Bool) (cs : List Value) (x : DataW H × List MemPlace),
    DataW.trod enc P W base spare held n t cs = some x → Rows.uptoBulk x.1 ≤ bulkTop → ∃ y, d.K W y cs ∧ ok y
def Opens (P : Program) {α : Type} (t : TypeId) (d : Kd α) (ok : α → Prop) : Prop := ∀ n, OpensN P n t d ok

section
variable {P : Program} {t e : TypeId} {α β : Type} {d : Kd α} {d2 : Kd β} {ok : α → Prop} {ok2 : β → Prop} {n : Nat}
theorem opens_int {k : IntKind} (hu : P.underlying t = some (.int k)) : OpensN P n t (Kd.int k) (fun y => (Lit.int k y).wf = true) := by
  intro H enc W base spare held cs x h _
  obtain ⟨y, rfl, rfl, hy⟩ := DataW.trod_int hu h
  exact ⟨y, rfl, hy⟩
theorem opens_bool (hu : P.underlying t = some .bool) : OpensN P n t Kd.bool (fun _ => True) := by
  intro H enc W base spare held cs x h _
  obtain ⟨y, rfl, rfl⟩ := DataW.trod_bool hu h
  exact ⟨y, rfl, trivial⟩
theorem opens_string (hu : P.underlying t = some .string) : OpensN P n t Kd.string (fun s => s.size ≤ bulkTop) := by
  intro H enc W base spare held cs x h hm
  obtain ⟨y, rfl, rfl, hy⟩ := DataW.trod_string hu h
  refine ⟨y, rfl, ?_⟩
  simp only [Rows.uptoBulk, Array.length_toList] at hm
  have : y.size = y.data.size := rfl
  omega
theorem list_of {p : Nat → α → Prop} : ∀ (len : Nat), (∀ i, i < len → ∃ y, p i y) → ∃ l : List α, l.length = len ∧ ∀ i y, l[i]? = some y → p i y
  | 0, _ => ⟨[], rfl, fun i y h => by simp at h⟩
  | len + 1, h => by
    obtain ⟨l, hl, hp⟩ := list_of len (fun i hi => h i (Nat.lt_succ_of_lt hi))
    obtain ⟨y, hy⟩ := h len (Nat.lt_succ_self _)
    refine ⟨l ++ [y], by simp [hl], fun i z hz => ?_⟩
    rcases Nat.lt_or_ge i l.length with hi | hi
    · rw [List.getElem?_append_left hi] at hz
      exact hp i z hz
    · rw [List.getElem?_append_right hi] at hz
      have : i - l.length = 0 := by
        rcases Nat.eq_zero_or_pos (i - l.length) with h0 | h0
        · exact h0
        · rw [List.getElem?_eq_none (by simp; omega)] at hz; cases hz
      rw [this] at hz
      obtain rfl : y = z := by simpa using hz
      obtain rfl : i = len := by omega
      exact hy
theorem mem_bulk {H : Type} {l : List (DataW H)} {x : DataW H} (hx : x ∈ l) : Rows.uptoBulk x ≤ Rows.uptoBulkAll l := by
  induction l with
  | nil => cases hx
  | cons y l ih =>
    simp only [Rows.uptoBulkAll]
    rcases List.mem_cons.1 hx with rfl | hx
    · omega
    · have := ih hx; omega
theorem bulk_pos {H : Type} (d : DataW H) : 1 ≤ Rows.uptoBulk d := by
  cases d with
  | lit l => cases l <;> simp [Rows.uptoBulk]
  | nil => simp [Rows.uptoBulk]
  | ptr d => simp [Rows.uptoBulk]
  | slice elems spare => simp [Rows.uptoBulk]
  | agg parts => simp [Rows.uptoBulk]
  | iface t d => simp [Rows.uptoBulk]
  | map entries => simp [Rows.uptoBulk]
  | held h => simp [Rows.uptoBulk]
theorem length_bulk {H : Type} (l : List (DataW H)) : l.length ≤ Rows.uptoBulkAll l := by
  induction l with
  | nil => simp [Rows.uptoBulkAll]
  | cons x r ih => have := bulk_pos x; simp only [Rows.uptoBulkAll, List.length_cons]; omega
theorem cells_get {w : World} {base : Nat} {a : Addr} {m : Nat} {c : List Value} (h : w.cells? base a m = some c) : c.length = m ∧ ∀ i u, c[i]? = some u → w.cell? (a.add i) = some u := by
  unfold World.cells? at h
  split at h
  · have hl : c.length = m := by simpa using mapM_some_length h
    refine ⟨hl, fun i u hu => ?_⟩
    have hi : i < m := by
      rcases Nat.lt_or_ge i m with hi | hi
      · exact hi
      · rw [List.getElem?_eq_none (by omega)] at hu; cases hu
    have := mapM_some_get h i i (by simp [hi])
    rw [this, hu]
  · cases h
theorem opens_slice (hu : P.underlying t = some (.slice e)) (hs : P.cellsOf e = d.sz) (hO : ∀ m, m < n → OpensN P m e d ok) :
    OpensN P n t (Kd.slice e d) (fun l => l.length ≤ bulkTop ∧ ∀ y ∈ l, ok y) := by
  intro H enc W base spare held cs x h hm
  rcases DataW.trod_slice hu h with ⟨rfl, rfl⟩ | ⟨a, len, cap, elems, rest, n', hn, rfl, rfl, hb, hl, hc, hlen, hel, hsp, hns⟩
  · exact ⟨[], ⟨none, 0, rfl, Nat.zero_le _, C_none _ _⟩, by simp, fun y hy => by cases hy⟩
  · simp only [Rows.uptoBulk] at hm
    have key : ∀ i, i < len → ∃ y, (∃ c, c.length = d.sz ∧ d.K W y c ∧ ∀ j u, c[j]? = some u → W.cell? (a.add (i * d.sz + j)) = some u) ∧ ok y := by
      intro i hi
      have h1 := hel i hi
      rw [List.getElem?_eq_getElem (by omega)] at h1
      obtain ⟨c, hc1, hc2⟩ := Option.bind_eq_some_iff.1 h1
      have hmem : elems[i].1 ∈ elems.map (·.1) := List.mem_map.2 ⟨_, List.getElem_mem _, rfl⟩
      obtain ⟨y, hy, hok⟩ := hO n' (by omega) enc W base spare held c _ hc2 (by have := mem_bulk hmem; omega)
      obtain ⟨hcl, hcg⟩ := cells_get hc1
      refine ⟨y, ⟨c, hcl.trans hs, hy, fun j u hju => ?_⟩, hok⟩
      have := hcg j u hju
      rwa [Go.Deep.add_add, hs] at this
    obtain ⟨l, hll, hlp⟩ := list_of len key
    have h63 : len ≤ 9223372036854775807 := by simp only [maxLen] at hc; omega
    refine ⟨l, ⟨some a, cap, by rw [hll], by omega, ⟨rfl, by omega, fun _ => ⟨a, rfl, fun j p hj => (hlp j p hj).1⟩⟩⟩, ?_, fun y hy => ?_⟩
    · have := length_bulk (elems.map (·.1))
      simp only [List.length_map] at this
      omega
    · obtain ⟨i, hi, rfl⟩ := List.mem_iff_getElem.1 hy
      exact (hlp i _ (List.getElem?_eq_getElem hi)).2

/-- The fields of a struct from a cell on. -/
def OpensF (P : Program) {α : Type} (n : Nat) (fs : List Field) (off len : Nat) (d : Kd α) (ok : α → Prop) : Prop :=
  ∀ {H : Type} (enc : TypeId × Value → H) (W : World) (base : Nat) (spare : Nat → Bool) (held : Bool) (cs : List Value) (xs : List (DataW H × List MemPlace)), cs.length = len →
    xs.length = fs.length → (∀ (i : Nat) (f : Field), fs[i]? = some f → DataW.trod enc P W base spare held n f.type ((cs.drop f.offset).take (P.cellsOf f.type)) = xs[i]?) →
    Rows.uptoBulkAll (xs.map (·.1)) ≤ bulkTop → ∃ y, d.K W y (cs.drop off) ∧ ok y
theorem opensF_one {f : Field} {off len : Nat} (ho : f.offset = off) (hc : off + P.cellsOf f.type = len) (hO : OpensN P n f.type d ok) : OpensF P n [f] off len d ok := by
  intro H enc W base spare held cs xs hl hx h hm
  match xs, hx with
  | [x], _ =>
    have h0 := h 0 f rfl
    rw [ho, List.take_of_length_le (by rw [List.length_drop]; omega)] at h0
    refine hO enc W base spare held _ x h0 ?_
    simp only [List.map_cons, List.map_nil, Rows.uptoBulkAll] at hm
    omega
theorem opensF_cons {f : Field} {fs : List Field} {off len : Nat} (ho : f.offset = off) (hs : P.cellsOf f.type = d.sz) (hO : OpensN P n f.type d ok) (hF : OpensF P n fs (off + d.sz) len d2 ok2) :
    OpensF P n (f :: fs) off len (Kd.pair d d2) (fun y => ok y.1 ∧ ok2 y.2) := by
  intro H enc W base spare held cs xs hl hx h hm
  match xs, hx with
  | x :: xs, hx =>
    have h0 := h 0 f rfl
    rw [ho, hs] at h0
    simp only [List.map_cons, Rows.uptoBulkAll] at hm
    obtain ⟨y, hy, hok⟩ := hO enc W base spare held _ x h0 (by omega)
    obtain ⟨y2, hy2, hok2⟩ := hF enc W base spare held cs xs hl (by simpa using hx) (fun i g hg => h (i + 1) g hg) (by omega)
    refine ⟨(y, y2), ⟨_, cs.drop (off + d.sz), ?_, hy, hy2⟩, hok, hok2⟩
    rw [← List.drop_drop]; exact (List.take_append_drop _ _).symm
theorem opens_struct {fs : Array Field} {len : Nat} (hu : P.underlying t = some (.struct fs)) (hc : P.cellsOf t = len) (hF : ∀ m, m < n → OpensF P m fs.toList 0 len d ok) : OpensN P n t d ok := by
  intro H enc W base spare held cs x h hm
  obtain ⟨xs, n', hn, rfl, hl, hxl, hx⟩ := DataW.trod_struct hu h
  simp only [Rows.uptoBulk] at hm
  obtain ⟨y, hy, hok⟩ := hF n' (by omega) enc W base spare held cs xs (hl.trans hc) (by simpa using hxl) (fun i f hf => hx i f (by simpa using hf)) (by omega)
  exact ⟨y, by simpa using hy, hok⟩
theorem opens_iso {γ : Type} {f : γ → α} (g : α → γ) (hg : ∀ a, f (g a) = a) (hO : OpensN P n t d ok) : OpensN P n t (Kd.iso d f) (fun y => ok (f y)) := by
  intro H enc W base spare held cs x h hm
  obtain ⟨y, hy, hok⟩ := hO enc W base spare held cs x h hm
  exact ⟨g y, by show d.K W (f (g y)) cs; rw [hg]; exact hy, by show ok (f (g y)); rw [hg]; exact hok⟩

/-! ### arguments -/
variable {H : Type} {enc : TypeId × Value → H} {W : World} {base b0 : Nat} {spare : Nat → Bool} {held : Bool} {v : Value} {x : DataW H} {ps : List MemPlace} {r : Reach}
theorem arg_struct {fs : Array Field} (hu : P.underlying t = some (.struct fs)) (hv : Value.okWide P W r b0 t v) (h : DataW.Trod enc P W base spare held t v x ps) (hm : Rows.uptoBulk x ≤ bulkTop) (hO : Opens P t d ok) :
    ∃ y cs, v = .agg cs ∧ d.K W y cs.toList ∧ ok y := by
  obtain ⟨cs, rfl, _⟩ := okWide_struct hu hv
  obtain ⟨fuel, hf⟩ := h
  obtain ⟨y, hy, hok⟩ := hO fuel enc W base spare held _ _ hf hm
  exact ⟨y, cs, rfl, by simpa [Value.cells] using hy, hok⟩
theorem arg_slice (hu : P.underlying t = some (.slice e)) (hv : Value.okWide P W r b0 t v) (h : DataW.Trod enc P W base spare held t v x ps) (hm : Rows.uptoBulk x ≤ bulkTop) {ok' : List α → Prop} (hO : Opens P t (Kd.slice e d) ok') :
    ∃ y A c, v = .slice A y.length c ∧ y.length ≤ c ∧ d.C W A y.length y ∧ ok' y := by
  obtain ⟨a0, len, cap, rfl⟩ := okWide_slice hu hv
  obtain ⟨fuel, hf⟩ := h
  obtain ⟨y, ⟨A, c, hc, hl, hr⟩, hok⟩ := hO fuel enc W base spare held _ _ hf hm
  simp [Value.cells] at hc
  obtain ⟨rfl, rfl, rfl⟩ := hc
  exact ⟨y, _, _, rfl, hl, hr, hok⟩
theorem lt_of_cell {w : World} {b o : Nat} {u : Value} (h : w.cell? ⟨b, o, none⟩ = some u) : b < w.heap.size := by
  rcases Nat.lt_or_ge b w.heap.size with h1 | h1
  · exact h1
  · simp [World.cell?, Array.getElem?_eq_none h1] at h
theorem bulk_arg {ds : List (DataW H)} (h : Rows.uptoSmall H ds = true) {j : Nat} {y : DataW H} (hd : ds[j]? = some y) : Rows.uptoBulk y ≤ bulkTop :=
  Nat.le_trans (mem_bulk (List.mem_of_getElem? hd)) (of_decide_eq_true h)
theorem arg_string (hu : P.underlying t = some .string) (hv : Value.okWide P W r b0 t v) (h : DataW.Trod enc P W base spare held t v x ps) (hm : Rows.uptoBulk x ≤ bulkTop) :
    ∃ s, v = .string s ∧ s.size ≤ bulkTop := by
  obtain ⟨s, rfl, rfl, _, _⟩ := open_string hu hv h
  refine ⟨s, rfl, ?_⟩
  simp only [Rows.uptoBulk, Array.length_toList] at hm
  have : s.size = s.data.size := rfl
  omega
theorem arg_int {k : IntKind} (hu : P.underlying t = some (.int k)) (hv : Value.okWide P W r b0 t v) (h : DataW.Trod enc P W base spare held t v x ps) : ∃ y, v = .int k y ∧ (Lit.int k y).wf = true := by
  obtain ⟨y, rfl, rfl, _, hy⟩ := open_int hu hv h
  exact ⟨y, rfl, hy⟩
end
end Go.Proofs.YtijdghplfhfpaaaDoor.UB
