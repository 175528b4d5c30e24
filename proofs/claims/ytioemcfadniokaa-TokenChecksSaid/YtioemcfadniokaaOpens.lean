/- What comes in as data is read: from a reading of a type to the print's kinds, with the reach's bounds. -/
import Derived.Test.YtioemcfadniokaaU
import Derived.ChangeArms
import Derived.Deep.Slices
import Derived.SizedLaws
import Derived.ProofKit
import Derived.ChangeOld
import Derived.Lib.SmallJoins
namespace Go.Proofs.Ytioemcfadniokaa.U
open Go.RowKit Go.Proofs.YtioemcfadniokaaW.PrintWords Go.ChangeShapes Go.WideShapes

def OpensN (P : Program) {α : Type} (n : Nat) (t : TypeId) (d : Kd α) (ok : α → Prop) : Prop :=
  ∀ {H : Type} (enc : TypeId × Value → H) (W : World) (base : Nat) (spare : Nat → Bool) (held : Bool) (cs : List Value) (x : DataW H × List MemPlace),
    DataW.trod enc P W base spare held n t cs = some x → (∀ m ∈ x.1.weights P t, m ≤ reachBytes) → ∃ y, d.K W y cs ∧ ok y
def Opens (P : Program) {α : Type} (t : TypeId) (d : Kd α) (ok : α → Prop) : Prop := ∀ n, OpensN P n t d ok

section
variable {P : Program} {t e : TypeId} {α β : Type} {d : Kd α} {d2 : Kd β} {ok : α → Prop} {ok2 : β → Prop} {n : Nat}
theorem opens_int {k : IntKind} (hu : P.underlying t = some (.int k)) : OpensN P n t (Kd.int k) (fun y => (Lit.int k y).wf = true) := by
  intro H enc W base spare held cs x h _
  obtain ⟨y, rfl, rfl, hy⟩ := DataW.trod_int hu h
  exact ⟨y, rfl, hy⟩
theorem opens_bool (hu : P.underlying t = some .bool) : OpensN P n t Kd.bool (fun _ => True) := by
  intro H enc W base spare held cs x h _
  obtain ⟨y, rfl, rfl⟩ := DataW.trod_bool hu h
  exact ⟨y, rfl, trivial⟩
theorem opens_string (hu : P.underlying t = some .string) : OpensN P n t Kd.string (fun s => s.size ≤ reachBytes) := by
  intro H enc W base spare held cs x h hm
  obtain ⟨y, rfl, rfl, hy⟩ := DataW.trod_string hu h
  refine ⟨y, rfl, hm _ ?_⟩
  simp [DataW.weights]
theorem list_of {p : Nat → α → Prop} : ∀ (len : Nat), (∀ i, i < len → ∃ y, p i y) → ∃ l : List α, l.length = len ∧ ∀ i y, l[i]? = some y → p i y
  | 0, _ => ⟨[], rfl, fun i y h => by simp at h⟩
  | len + 1, h => by
    obtain ⟨l, hl, hp⟩ := list_of len (fun i hi => h i (Nat.lt_succ_of_lt hi))
    obtain ⟨y, hy⟩ := h len (Nat.lt_succ_self _)
    refine ⟨l ++ [y], by simp [hl], fun i z hz => ?_⟩
    rcases Nat.lt_or_ge i l.length with hi | hi
    · rw [List.getElem?_append_left hi] at hz
      exact hp i z hz
    · rw [List.getElem?_append_right hi] at hz
      have : i - l.length = 0 := by
        rcases Nat.eq_zero_or_pos (i - l.length) with h0 | h0
        · exact h0
        · rw [List.getElem?_eq_none (by simp; omega)] at hz; cases hz
      rw [this] at hz
      obtain rfl : y = z := by simpa using hz
      obtain rfl : i = len := by omega
      exact hy
theorem mem_weightsAll {H : Type} {l : List (DataW H)} {x : DataW H} (hx : x ∈ l) : ∀ m ∈ x.weights P e, m ∈ DataW.weightsAll P e l := by
  induction l with
  | nil => cases hx
  | cons y l ih =>
    intro m hm
    rw [DataW.weightsAll]
    rcases List.mem_cons.1 hx with rfl | hx
    · exact List.mem_append_left _ hm
    · exact List.mem_append_right _ (ih hx m hm)
theorem cells_get {w : World} {base : Nat} {a : Addr} {m : Nat} {c : List Value} (h : w.cells? base a m = some c) : c.length = m ∧ ∀ i u, c[i]? = some u → w.cell? (a.add i) = some u := by
  unfold World.cells? at h
  split at h
  · have hl : c.length = m := by simpa using mapM_some_length h
    refine ⟨hl, fun i u hu => ?_⟩
    have hi : i < m := by
      rcases Nat.lt_or_ge i m with hi | hi
      · exact hi
      · rw [List.getElem?_eq_none (by omega)] at hu; cases hu
    have := mapM_some_get h i i (by simp [hi])
    rw [this, hu]
  · cases h
theorem opens_slice (hu : P.underlying t = some (.slice e)) (hs : P.cellsOf e = d.sz) (hO : ∀ m, m < n → OpensN P m e d ok) :
    OpensN P n t (Kd.slice e d) (fun l => l.length * P.bytesOf e ≤ reachBytes ∧ ∀ y ∈ l, ok y) := by
  intro H enc W base spare held cs x h hm
  rcases DataW.trod_slice hu h with ⟨rfl, rfl⟩ | ⟨a, len, cap, elems, rest, n', hn, rfl, rfl, hb, hl, hc, hlen, hel, hsp, hns⟩
  · exact ⟨[], ⟨none, 0, rfl, Nat.zero_le _, C_none _ _⟩, by simp, fun y hy => by cases hy⟩
  · simp only [DataW.weights, hu] at hm
    have key : ∀ i, i < len → ∃ y, (∃ c, c.length = d.sz ∧ d.K W y c ∧ ∀ j u, c[j]? = some u → W.cell? (a.add (i * d.sz + j)) = some u) ∧ ok y := by
      intro i hi
      have h1 := hel i hi
      rw [List.getElem?_eq_getElem (by omega)] at h1
      obtain ⟨c, hc1, hc2⟩ := Option.bind_eq_some_iff.1 h1
      have hmem : elems[i].1 ∈ elems.map (·.1) := List.mem_map.2 ⟨_, List.getElem_mem _, rfl⟩
      obtain ⟨y, hy, hok⟩ := hO n' (by omega) enc W base spare held c _ hc2 (fun m hmm => hm m (List.mem_cons_of_mem _ (List.mem_append_left _ (mem_weightsAll hmem m hmm))))
      obtain ⟨hcl, hcg⟩ := cells_get hc1
      refine ⟨y, ⟨c, hcl.trans hs, hy, fun j u hju => ?_⟩, hok⟩
      have := hcg j u hju
      rwa [Go.Deep.add_add, hs] at this
    obtain ⟨l, hll, hlp⟩ := list_of len key
    have h63 : len ≤ 9223372036854775807 := by simp only [maxLen] at hc; omega
    refine ⟨l, ⟨some a, cap, by rw [hll], by omega, ⟨rfl, by omega, fun _ => ⟨a, rfl, fun j p hj => (hlp j p hj).1⟩⟩⟩, ?_, fun y hy => ?_⟩
    · have := hm _ List.mem_cons_self
      simp only [List.length_map, hlen] at this
      rw [hll]
      exact Nat.le_trans (Nat.mul_le_mul_right _ (Nat.le_add_right _ _)) this
    · obtain ⟨i, hi, rfl⟩ := List.mem_iff_getElem.1 hy
      exact (hlp i _ (List.getElem?_eq_getElem hi)).2

/-- The fields of a struct from a cell on. -/
def OpensF (P : Program) {α : Type} (n : Nat) (fs : List Field) (off len : Nat) (d : Kd α) (ok : α → Prop) : Prop :=
  ∀ {H : Type} (enc : TypeId × Value → H) (W : World) (base : Nat) (spare : Nat → Bool) (held : Bool) (cs : List Value) (xs : List (DataW H × List MemPlace)), cs.length = len →
    xs.length = fs.length → (∀ (i : Nat) (f : Field), fs[i]? = some f → DataW.trod enc P W base spare held n f.type ((cs.drop f.offset).take (P.cellsOf f.type)) = xs[i]?) →
    (∀ m ∈ DataW.weightsEach P (fs.map (·.type)) (xs.map (·.1)), m ≤ reachBytes) → ∃ y, d.K W y (cs.drop off) ∧ ok y
theorem opensF_one {f : Field} {off len : Nat} (ho : f.offset = off) (hc : off + P.cellsOf f.type = len) (hO : OpensN P n f.type d ok) : OpensF P n [f] off len d ok := by
  intro H enc W base spare held cs xs hl hx h hm
  match xs, hx with
  | [x], _ =>
    have h0 := h 0 f rfl
    rw [ho, List.take_of_length_le (by rw [List.length_drop]; omega)] at h0
    refine hO enc W base spare held _ x h0 (fun m hmm => hm m ?_)
    simp only [List.map_cons, List.map_nil, DataW.weightsEach, List.append_nil]
    exact hmm
theorem opensF_cons {f : Field} {fs : List Field} {off len : Nat} (ho : f.offset = off) (hs : P.cellsOf f.type = d.sz) (hO : OpensN P n f.type d ok) (hF : OpensF P n fs (off + d.sz) len d2 ok2) :
    OpensF P n (f :: fs) off len (Kd.pair d d2) (fun y => ok y.1 ∧ ok2 y.2) := by
  intro H enc W base spare held cs xs hl hx h hm
  match xs, hx with
  | x :: xs, hx =>
    have h0 := h 0 f rfl
    rw [ho, hs] at h0
    simp only [List.map_cons, DataW.weightsEach, List.mem_append] at hm
    obtain ⟨y, hy, hok⟩ := hO enc W base spare held _ x h0 (fun m hmm => hm m (.inl hmm))
    obtain ⟨y2, hy2, hok2⟩ := hF enc W base spare held cs xs hl (by simpa using hx) (fun i g hg => h (i + 1) g hg) (fun m hmm => hm m (.inr hmm))
    refine ⟨(y, y2), ⟨_, cs.drop (off + d.sz), ?_, hy, hy2⟩, hok, hok2⟩
    rw [← List.drop_drop]; exact (List.take_append_drop _ _).symm
theorem opens_struct {fs : Array Field} {len : Nat} (hu : P.underlying t = some (.struct fs)) (hc : P.cellsOf t = len) (hF : ∀ m, m < n → OpensF P m fs.toList 0 len d ok) : OpensN P n t d ok := by
  intro H enc W base spare held cs x h hm
  obtain ⟨xs, n', hn, rfl, hl, hxl, hx⟩ := DataW.trod_struct hu h
  simp only [DataW.weights, hu] at hm
  obtain ⟨y, hy, hok⟩ := hF n' (by omega) enc W base spare held cs xs (hl.trans hc) (by simpa using hxl) (fun i f hf => hx i f (by simpa using hf)) hm
  exact ⟨y, by simpa using hy, hok⟩
theorem opens_iso {γ : Type} {f : γ → α} (g : α → γ) (hg : ∀ a, f (g a) = a) (hO : OpensN P n t d ok) : OpensN P n t (Kd.iso d f) (fun y => ok (f y)) := by
  intro H enc W base spare held cs x h hm
  obtain ⟨y, hy, hok⟩ := hO enc W base spare held cs x h hm
  exact ⟨g y, by show d.K W (f (g y)) cs; rw [hg]; exact hy, by show ok (f (g y)); rw [hg]; exact hok⟩

/-! ### arguments -/
variable {H : Type} {enc : TypeId × Value → H} {W : World} {base b0 : Nat} {spare : Nat → Bool} {held : Bool} {v : Value} {x : DataW H} {ps : List MemPlace} {r : Reach}
theorem arg_struct {fs : Array Field} (hu : P.underlying t = some (.struct fs)) (hv : Value.okWide P W r b0 t v) (h : DataW.Trod enc P W base spare held t v x ps) (hm : ∀ m ∈ x.weights P t, m ≤ reachBytes) (hO : Opens P t d ok) :
    ∃ y cs, v = .agg cs ∧ d.K W y cs.toList ∧ ok y := by
  obtain ⟨cs, rfl, _⟩ := okWide_struct hu hv
  obtain ⟨fuel, hf⟩ := h
  obtain ⟨y, hy, hok⟩ := hO fuel enc W base spare held _ _ hf hm
  exact ⟨y, cs, rfl, by simpa [Value.cells] using hy, hok⟩
theorem arg_slice (hu : P.underlying t = some (.slice e)) (hv : Value.okWide P W r b0 t v) (h : DataW.Trod enc P W base spare held t v x ps) (hm : ∀ m ∈ x.weights P t, m ≤ reachBytes) {ok' : List α → Prop} (hO : Opens P t (Kd.slice e d) ok') :
    ∃ y A c, v = .slice A y.length c ∧ y.length ≤ c ∧ d.C W A y.length y ∧ ok' y := by
  obtain ⟨a0, len, cap, rfl⟩ := okWide_slice hu hv
  obtain ⟨fuel, hf⟩ := h
  obtain ⟨y, ⟨A, c, hc, hl, hr⟩, hok⟩ := hO fuel enc W base spare held _ _ hf hm
  simp [Value.cells] at hc
  obtain ⟨rfl, rfl, rfl⟩ := hc
  exact ⟨y, _, _, rfl, hl, hr, hok⟩
theorem sized_arg {ts : List TypeId} {ds : List (DataW H)} (h : (DataW.weightsEach P ts ds).all (· ≤ reachBytes) = true) {j : Nat} {y : DataW H} (ht : ts[j]? = some t) (hd : ds[j]? = some y) : ∀ m ∈ y.weights P t, m ≤ reachBytes :=
  fun m hm => by simpa using (List.all_eq_true.1 h) m (DataW.weights_mem_each ht hd m hm)
end
end Go.Proofs.Ytioemcfadniokaa.U
