/- Patterns: glob.Match at the kind Matches: the loop over the iterator. -/
import Derived.Test.YtioemcfadniokaaGlobQ
import Derived.Test.YtioemcfadniokaaGlobP
namespace Go.Proofs.Ytioemcfadniokaa.H
open Go.RowKit Go.Proofs.YtioemcfadniokaaW.PrintWords Go.Proofs.YtioemcfadniokaaW.PrintLast Go.Proofs.YtioemcfadniokaaW.PrintMore Go.Proofs.Ytioemcfadniokaa.U
set_option linter.unusedVariables false
set_option linter.unusedSimpArgs false
open Go.Shelf
attribute [local go_sem] Oper.semAt_some
theorem KpC.alloc {Bn : Nat} (W : World) (o : Obj) (hb : Bn < W.heap.size) : KpC Bn W (W.alloc o) :=
  ⟨by simp, fun v hv => ((Below.alloc (Below.refl W.heap.size W) (Nat.le_refl _) o).cell (p := ⟨Bn, 0, none⟩) hb).trans hv⟩
theorem pieces_len : ∀ l : List Int, (piecesOf l).length ≤ l.length
  | [] => Nat.le_refl _
  | [_] => Nat.le_refl _
  | a :: b :: t => by
    rw [piecesOf]
    split
    · have := pieces_len t; simp; omega
    · have := pieces_len (b :: t); simp at this ⊢; omega
theorem infoPc : (Try.prog.info? 86).map (fun i => (i.zero, i.size, i.bytes)) = some (some (.agg #[.int .u8 0, .bool false, .bool false]), 3, 3) := by kernel_rfl
theorem cells_three (W : World) (u0 u1 u2 : Value) (t : TypeId) : ∀ j u, [u0, u1, u2][j]? = some u → (W.alloc (.cells #[u0, u1, u2] t)).cell? ((⟨W.heap.size, 0, none⟩ : Addr).add j) = some u := by
  intro j u hj
  match j, hj with
  | 0, hj => simp at hj; subst hj; simp [Addr.add]
  | 1, hj => simp at hj; subst hj; simp [Addr.add]
  | 2, hj => simp at hj; subst hj; simp [Addr.add]
  | j + 3, hj => simp at hj
theorem cells_at {W : World} {B : Nat} {cs : Array Value} {t : TypeId} (h : W.heap[B]? = some (.cells cs t (0, 0))) (j : Nat) : W.cell? ⟨B, j, none⟩ = cs[j]? := by
  unfold World.cell?
  rw [show W.heap[(⟨B, j, none⟩ : Addr).block]? = _ from h]
  rfl
theorem flat_get (ys : List Pc) (j i : Nat) (p : Pc) (u : Value) (hj : ys[j]? = some p) (hi : (Pc.enc p)[i]? = some u) : (ys.flatMap Pc.enc)[j * 3 + i]? = some u := by
  induction ys generalizing j with
  | nil => simp at hj
  | cons y ys ih =>
    have hl : (Pc.enc y).length = 3 := rfl
    match j, hj with
    | 0, hj =>
      obtain rfl : y = p := by simpa using hj
      rw [List.flatMap_cons, List.getElem?_append_left (by
        have : i < (Pc.enc y).length := by
          rcases Nat.lt_or_ge i (Pc.enc y).length with h | h
          · exact h
          · rw [List.getElem?_eq_none h] at hi; cases hi
        omega)]
      rw [Nat.zero_mul, Nat.zero_add]; exact hi
    | j + 1, hj =>
      rw [List.flatMap_cons, List.getElem?_append_right (by rw [hl]; omega), hl, show (j + 1) * 3 + i - 3 = j * 3 + i by omega]
      exact ih j (by simpa using hj)
/-- What such a row holds is read. -/
theorem row_reads {W : World} {n₀ : Nat} {v : Value} {ys : List Pc} (h : W.ownsRow n₀ 86 3 v ys.length (ys.flatMap Pc.enc)) (hl : ys.length ≤ 1048576) : ∃ A c, v = .slice A ys.length c ∧ Kd.C kPc W A ys.length ys := by
  rcases h.2 with ⟨hv, h0⟩ | ⟨g, cap, cur, hv, hrest⟩
  · have : ys = [] := List.length_eq_zero_iff.1 h0
    subst this
    exact ⟨none, 0, hv, C_none _ _⟩
  · refine ⟨some ⟨g, 0, none⟩, cap, hv, rfl, by omega, fun _ => ⟨_, rfl, fun j p hj => ⟨Pc.enc p, rfl, rfl, fun i u hi => ?_⟩⟩⟩
    exact h.cells (g := g) (by rw [hv]; rfl) (j * 3 + i) u (flat_get ys j i p u hj hi)
set_option maxRecDepth 100000 in
set_option maxHeartbeats 2000000 in
theorem match3_calls (s p : ByteArray) (w : World) (hs : s.size ≤ 2000) (hp : p.size ≤ 100) :
    Calls Try.prog 30 #[.int .i64 3, .string s, .string p] w fun e w' => e = .returned (.tuple #[.bool (fitsV (piecesOf (bytesOf (lowS p))) (bytesOf (lowS s))), .int .i64 0]) ∧ Below w.heap.size w w' := by
  have H1 := fun w => fold_calls s w (by omega)
  have H2 := fun w => fold_calls p w (by omega)
  have z1 := lowS_size s
  have z2 := lowS_size p
  generalize lowS s = a at *
  generalize lowS p = b at *
  have H1 := Lib.hid H1
  have H2 := Lib.hid H2
  have i1 : ¬ (2000 : Int) < s.size := by omega
  have i2 : ¬ (100 : Int) < p.size := by omega
  refine (callsIn_wide (n := 6)).1 ?_
  refine callsIn_of_wp_marks Try.func30 rfl trivial ?_ rfl
  simp only [Try.ntmps30, List.size_toArray, List.length_cons, List.length_nil, Nat.reduceAdd, Nat.reduceSub, Array.replicate_succ, Array.replicate_zero, List.push_toArray, List.append_toArray, List.nil_append, List.cons_append]
  gi_wp2_with fail
  refine ⟨trivial, ?_⟩
  refine (callsIn_wide.2 (H1.out _)).mono ?_
  rintro e w1 ⟨rfl, hb1⟩
  have hz1 := hb1.size
  gi_wp2_with fail
  refine ⟨trivial, ?_⟩
  refine (callsIn_wide.2 (H2.out _)).mono ?_
  rintro e w2 ⟨rfl, hb2⟩
  have hz2 := hb2.size
  gi_wp2_with fail
  refine ⟨trivial, ?_⟩
  refine (pieces_in Fence.wide 5 trivial rfl _ _).mono ?_
  rintro e w3 ⟨rfl, rfl⟩
  gi_wp2_with fail
  have bL := (Boxed.new w2 82 (.slice none 0 0)).alloc (.cells #[.string b] 9)
  have bB := Boxed.new (w2.alloc (.cells #[.slice none 0 0] 82)) 9 (.string b)
  rw [World.size_alloc] at bB
  have hB0 : Below w2.heap.size w2 ((w2.alloc (.cells #[.slice none 0 0] 82)).alloc (.cells #[.string b] 9)) := ((Below.refl _ _).alloc (Nat.le_refl _) _).alloc (by simp) _
  have hsz : ((w2.alloc (.cells #[.slice none 0 0] 82)).alloc (.cells #[.string b] 9)).heap.size = w2.heap.size + 2 := by simp
  obtain ⟨W0, hW0⟩ : ∃ W0, (w2.alloc (.cells #[.slice none 0 0] 82)).alloc (.cells #[.string b] 9) = W0 := ⟨_, rfl⟩
  rw [hW0] at bL bB hB0 hsz ⊢
  clear hW0
  refine wpIn_rangeFunc_ownH rfl (by omega) (gf := 61) (lb := #[.pointer (some ⟨w2.heap.size + 1, 0, none⟩)]) rfl trivial (enters_of Try.func61 (by kernel_rfl) rfl)
    (pieces_stops Fence.wide 5 trivial rfl (by omega) (w2.heap.size + 1) b (by omega) W0 (by omega) bB.cell) KpC.trans (fun W l o o' _ ho hc _ => KpC.put W l o o' ho hc) (Below.refl _ _) (fun _ => rfl)
    (fun pre W => ((∃ v, Boxed W w2.heap.size 82 v ∧ W.ownsRow w2.heap.size 86 3 v pre.length (pre.flatMap Pc.enc) ∧ True) ∧ Boxed W (w2.heap.size + 1) 9 (.string b)) ∧ Below w2.heap.size w2 W)
    (fun _ _ _ => False)
    (OwnFrom.and (OwnFrom.and (Own.from (holdsRow_own w2.heap.size w2.heap.size 82 86 3 (fun pre : List Pc => pre.length) (fun pre => pre.flatMap Pc.enc) (fun pre v => True)) _) (Own.from (boxed_own _ _ _) _)) (ownFrom_below (Nat.le_refl _) (by omega)))
    (fun _ _ _ _ _ hs _ _ => hs)
    ⟨⟨⟨_, bL, World.ownsRow_nil _ _ _ _, trivial⟩, bB⟩, hB0⟩
    (fun x a' W => ∃ Bx, w2.heap.size + 1 < Bx ∧ W.heap[Bx]? = some (.cells #[.int .u8 x.c, .bool x.one, .bool x.many] 86 (0, 0)) ∧ a' = { tmps := #[.int .i64 3, .string s, .string p, undef, undef, undef, .bool false, .int .i64 0, .string a, .string b, .pointer (some ⟨w2.heap.size, 0, none⟩), .pointer (some ⟨Bx, 0, none⟩), .int .i64 3, .bool false, .bool false, .int .i64 3, .bool false, .bool false, .string s, .int .i64 s.size, .bool false, .bool false, .string p, .int .i64 p.size, .bool false, .bool false, .string s, .string a, .string p, .string b, .int .i64 3, .bool false, .bool false, undef, undef, undef, .bool false, .bool false, undef, undef, undef, .string b, .func (.func 61) #[] #[.pointer (some ⟨w2.heap.size + 1, 0, none⟩)], .agg #[.int .u8 x.c, .bool x.one, .bool x.many], undef, undef, undef, undef, undef, undef, undef], defers := [] })
    (fun x a' _ X Y row hs hg hr => by
      obtain ⟨Bx, h1, h2, h3⟩ := hs
      refine ⟨Bx, h1, ?_, h3⟩
      rw [← h2]
      exact hg.block Bx (Array.getElem?_eq_some_iff.1 h2).1 (fun e => by
        obtain ⟨_, o, ho, hc⟩ := hr Bx e.symm
        rw [h2] at ho; cases ho; cases hc))
    ?assign ?body ?done ?stop
  case assign =>
    rintro l pre x W K ⟨⟨⟨v, bL1, hrow, _⟩, bB1⟩, hB1⟩ hK
    gi_wp2
    exact hK _ _ ((KeepsOthers.alloc _ _).from _) (KpC.alloc _ _ bB1.lt) ⟨⟨⟨v, bL1.alloc _, hrow.alloc _, trivial⟩, bB1.alloc _⟩, hB1.alloc hB1.size _⟩ ⟨W.heap.size, bB1.lt, World.alloc_heap_new W _, rfl⟩
  case body =>
    rintro l pre x a' W hl ⟨r, hr⟩ ⟨⟨⟨v, bL1, hrow, _⟩, bB1⟩, hB1⟩ ⟨Bx, hBx, bX, rfl⟩ hlt
    obtain ⟨i0, hi, hz0, hz3, hz4⟩ := info_parts infoPc
    have cL := bL1.cell
    have x0 := cells_at bX 0
    have x1 := cells_at bX 1
    have x2 := cells_at bX 2
    simp at x0 x1 x2
    gi_wp2_with (gi_at_builtin; refine wpListIn_append_own _ rfl _ _ 82 rfl w2.heap.size 86 i0 (.agg #[.int .u8 0, .bool false, .bool false]) 3 3 Try.underlying82 hi hz0 hz3 hz4 rfl (by decide) _ _ _ rfl (hrow.alloc _) ⟨W.heap.size, 0, none⟩ 1 1 [.int .u8 x.c, .bool x.one, .bool x.many] rfl rfl (cells_three _ _ _ _ _) (by simp [Value.oneCell']) (by unfold maxLen; omega) (by omega) (by have := hB1.size; simp; omega) ?_; intro v' w4 hown' hgrow _; obtain ⟨g', cap', rfl⟩ := ownsRow_succ hown'; obtain ⟨hv1, hv2, hr2, hk2, hb2⟩ := bL1.appended (by decide) hrow hB1.size (Nat.le_refl _) hown' hgrow; have hc1 := hv1.cell; have hf1 := hv1.frozen)
    have bB2 := ((bB1.alloc _).kept hgrow (bB1.not_row (by decide) hrow)).other (B' := w2.heap.size) (by omega) (Value.slice (some ⟨g', 0, none⟩) (pre.length + 1) cap')
    exact ⟨hk2.from _, ⟨hb2.size, fun u hu => by rw [bB1.cell] at hu; rw [← hu]; exact bB2.cell⟩, ⟨⟨⟨_, hv2, by rw [List.flatMap_append, List.length_append]; simpa [Pc.enc] using hr2, trivial⟩, bB2⟩, hB1.trans hb2⟩⟩
  case done =>
    rintro D ys W hD rfl ⟨⟨⟨v, bL1, hrow, _⟩, bB1⟩, hB1⟩ hK
    have hlen : (piecesOf (bytesOf b)).length ≤ 1048576 := Nat.le_trans (pieces_len _) (by rw [bytesOf_length]; omega)
    obtain ⟨A, c, rfl, hC⟩ := row_reads hrow hlen
    have cL := bL1.cell
    gi_wp2_with fail
    refine ⟨trivial, ?_⟩
    refine (callsIn_wide.2 (matches_calls a A c _ _ (by omega) hlen hC)).mono ?_
    rintro e w5 ⟨rfl, hb5⟩
    have hDlt : D < W.heap.size := (Array.getElem?_eq_some_iff.1 hK).1
    have hK5 : w5.heap[D]? = some (.deferred (some [])) := (hb5.block D hDlt).trans hK
    gi_wp2_with fail
    refine ⟨by simp, .inl ⟨_, _, rfl, run_takeDeferred hK5, ?_⟩⟩
    refine ⟨.tuple #[.bool (fitsV (piecesOf (bytesOf b)) (bytesOf a)), .int .i64 0], by simp [results, Try.results30, go_sem], rfl, ?_⟩
    have hz4 := hB1.size
    have hall : Below w.heap.size w w5 := ((hb1.trans (hb2.mono (by omega))).trans (hB1.mono (by omega))).trans (hb5.mono (by omega))
    exact hall.trans (belowK_b (w := w) (Nat.le_refl _) w5 D _ _ (by omega) hK5 rfl rfl)
  case stop =>
    rintro D c pre W _ _ h _
    exact h.elim
end Go.Proofs.Ytioemcfadniokaa.H
