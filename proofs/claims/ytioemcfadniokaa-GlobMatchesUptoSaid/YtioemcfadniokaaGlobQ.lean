/- Patterns: the iterator of pieces: its contract. -/
import Derived.Test.YtioemcfadniokaaGlobN
import Derived.RangeFuncBox
import Derived.RangeFuncNested
import Derived.RangeFuncLeaves
import Derived.Shelf.Abstract
import Derived.WalkKit
import Derived.OwnWalkIn
import Derived.TacticsInMore
import Derived.LoopNIn
import Derived.LoopIn
import Derived.Maps.AppendAt
namespace Go.Proofs.Ytioemcfadniokaa.H
open Go.RowKit Go.Proofs.YtioemcfadniokaaW.PrintWords Go.Proofs.YtioemcfadniokaaW.PrintLast Go.Proofs.YtioemcfadniokaaW.PrintMore Go.Proofs.Ytioemcfadniokaa.U
set_option linter.unusedVariables false
set_option linter.unusedSimpArgs false
open Go.Shelf
attribute [local go_sem] Oper.semAt_some
/-- What a round must keep: the text that the iterator has captured. -/
def KpC (Bn : Nat) (A B : World) : Prop := A.heap.size ≤ B.heap.size ∧ ∀ v, A.cell? ⟨Bn, 0, none⟩ = some v → B.cell? ⟨Bn, 0, none⟩ = some v
theorem KpC.trans {Bn : Nat} {A B C : World} (h : KpC Bn A B) (k : KpC Bn B C) : KpC Bn A C := ⟨Nat.le_trans h.1 k.1, fun v hv => k.2 v (h.2 v hv)⟩
theorem KpC.put {Bn : Nat} (W : World) (l : Nat) (o o' : Obj) (hl : W.heap[l]? = some o) (ho : o.isCells = false) : KpC Bn W (W.putObj l o') := by
  refine ⟨by simp, fun v hv => ?_⟩
  obtain ⟨q, hq, hc⟩ := cells_of_cell hv
  have hne : l ≠ Bn := fun e => by
    subst e
    rw [show W.heap[l]? = some q from hq] at hl
    cases hl; rw [hc] at ho; cases ho
  unfold World.cell? at hv ⊢
  rw [World.putObj_heap_other (fun e => hne e.symm)]
  exact hv
theorem grown_new {w w1 : World} (h : w.grownBy w1 none) {b : Nat} (hb : w.heap.size ≤ b) (i : Nat) (v : Value) : w.grownBy (w1.setCell ⟨b, i, none⟩ v) none :=
  ⟨h.os, h.tape, h.output, by simpa using h.size, fun j hj hne => by rw [Below.heap_setCell w1 ⟨b, i, none⟩ v j (by show j ≠ b; omega)]; exact h.block j hj hne⟩
set_option maxRecDepth 100000 in
set_option maxHeartbeats 2000000 in
theorem pieces1_in (F : Fence) (n : Nat) (h61 : F.fn 61) (hro : F.round = none) (hn : 1 ≤ n) (l Bn : Nat) (W : World) (hbW : Bn < W.heap.size) (p : ByteArray) (hp : p.size ≤ 1048576) (J Jx : List Pc → World → Prop) (hJ : AbidesFrom W.heap.size J)
    (hY : ∀ pre x W1, J pre W1 → pre.length < p.size → YieldAt F (n - 1) Try.prog l #[.agg #[.int .u8 x.c, .bool x.one, .bool x.many]] W1 fun e W' =>
      (e = .returned (.bool true) ∧ J (pre ++ [x]) W' ∧ KpC Bn W1 W') ∨ (e = .returned (.bool false) ∧ Jx (pre ++ [x]) W'))
    (hBn : W.cell? ⟨Bn, 0, none⟩ = some (.string p)) (h0 : J [] W) :
    CallsIn F n Try.prog 61 #[.func (.yield l) #[] #[], .pointer (some ⟨Bn, 0, none⟩)] W fun e W' => (∃ v, e = .returned v) ∧
      ((∃ ys, ys = piecesOf (bytesOf p) ∧ J ys W') ∨ (∃ pre, pre <+: piecesOf (bytesOf p) ∧ Jx pre W')) := by
  have hlp := bytesOf_length p
  obtain ⟨φ, dp, al, rd⟩ := F
  obtain rfl : rd = none := hro
  refine callsIn_of_wp Try.func61 rfl h61 ?_ rfl
  simp only [Try.ntmps61, List.size_toArray, List.length_cons, List.length_nil, Nat.reduceAdd, Nat.reduceSub, Array.replicate_succ, Array.replicate_zero, List.push_toArray, List.append_toArray, List.nil_append, List.cons_append]
  gi_wp2
  gi_loopw [3] (fun vi wr => ∃ (k : Nat) (pre : List Pc), k ≤ p.size ∧ vi = .int .i64 k ∧ pre.length ≤ k ∧ Hid (piecesOf (bytesOf p) = pre ++ piecesOf ((bytesOf p).drop k)) ∧ Hid (J pre wr) ∧ wr.cell? ⟨Bn, 0, none⟩ = some (.string p) ∧ W.heap.size ≤ wr.heap.size) (fun vi _ => p.size - (intOf vi).toNat)
  case atStart => exact ⟨0, [], Nat.zero_le _, rfl, Nat.le_refl _, by show _ = _; simp, h0, hBn, Nat.le_refl _⟩
  case round =>
    obtain ⟨k, pre, hk, rfl, hpl, hpre, hJs, hBr, hz⟩ := hrel
    have hne : Bn ≠ wr.heap.size := by omega
    have hBa : ∀ o, (wr.alloc o).cell? ⟨Bn, 0, none⟩ = some (.string p) := fun o => ((Below.alloc (Below.refl wr.heap.size wr) (Nat.le_refl _) o).cell (p := ⟨Bn, 0, none⟩) (by show Bn < _; omega)).trans hBr
    by_cases hlt : k < p.size
    · have c0 := p[k].toNat_lt
      obtain ⟨hk', hpk⟩ := bytes_at p k hlt
      by_cases hesc : p[k].toNat = 92 ∧ k + 1 < p.size
      · obtain ⟨h92, hk1⟩ := hesc
        obtain ⟨hk1', hpk1⟩ := bytes_at p (k + 1) hk1
        have c1 := p[k + 1].toNat_lt
        have i1 : (k : Int) + 1 < p.size := by omega
        have hnext := Lib.hid (show piecesOf (bytesOf p) = (pre ++ [(⟨(p[k + 1].toNat : Int), false, false⟩ : Pc)]) ++ piecesOf ((bytesOf p).drop (k + 2)) by
          rw [hpre.out, pieces_esc (by omega) (by rw [hpk]; omega), hpk1]; simp)
        clear hpk hk' hpk1 hk1'
        gi_wp2
        gi_region
        have hJ1 := hJ pre wr (wr.alloc (.cells #[.int .u8 (p[k + 1].toNat : Int), .bool false, .bool false] 86)).drew none hJs (grown_drew (World.grownBy_alloc wr _ none)) (fun r e => by cases e)
        have hB1 : (wr.alloc (.cells #[.int .u8 (p[k + 1].toNat : Int), .bool false, .bool false] 86)).drew.cell? ⟨Bn, 0, none⟩ = some (.string p) := hBa (.cells #[.int .u8 (p[k + 1].toNat : Int), .bool false, .bool false] 86)
        obtain ⟨fn, tmps, assign, body, hy, hR⟩ := hY pre (⟨(p[k + 1].toNat : Int), false, false⟩ : Pc) _ hJ1 (by omega)
        dsimp only at hy
        gi_wp2
        refine hR.mono ?_
        rintro e W3 (⟨rfl, hJ3, hk3⟩ | ⟨rfl, hJx3⟩)
        · have hz3 := hk3.1
          have hB3 := hk3.2 _ hB1
          gi_wp2
          go_roundw
          case rel => exact ⟨k + 2, pre ++ [(⟨(p[k + 1].toNat : Int), false, false⟩ : Pc)], by omega, by go_num, by simp; omega, hnext, hJ3, hB3, by simp at hz3; omega⟩
          case measure => simp [intOf]; omega
        · gi_wp2
          refine bodyPost_ret (results_none rfl _ _ _) rfl ?_
          exact ⟨⟨_, rfl⟩, .inr ⟨pre ++ [(⟨(p[k + 1].toNat : Int), false, false⟩ : Pc)], ⟨_, hnext.out.symm⟩, hJx3⟩⟩
      · have hnot : p[k].toNat ≠ 92 ∨ k + 1 = p.size := by omega
        have hnext0 := Lib.hid (show piecesOf (bytesOf p) = (pre ++ [(⟨(p[k].toNat : Int), ((p[k].toNat : Int) == 63), ((p[k].toNat : Int) == 42)⟩ : Pc)]) ++ piecesOf ((bytesOf p).drop (k + 1)) by
          rw [hpre.out, pieces_one hk' (by rw [hpk, hlp]; omega), hpk]; simp)
        clear hpk hk'
        by_cases h92 : p[k].toNat = 92
        · have e2 : ¬ (k : Int) + 1 < p.size := by omega
          have hnext := Lib.hid (show piecesOf (bytesOf p) = (pre ++ [(⟨92, false, false⟩ : Pc)]) ++ piecesOf ((bytesOf p).drop (k + 1)) by rw [hnext0.out, h92]; rfl)
          gi_wp2
          gi_region
          have hJ1 := hJ pre wr (wr.alloc (.cells #[.int .u8 92, .bool false, .bool false] 86)).drew none hJs (grown_drew (World.grownBy_alloc wr _ none)) (fun r e => by cases e)
          have hB1 : (wr.alloc (.cells #[.int .u8 92, .bool false, .bool false] 86)).drew.cell? ⟨Bn, 0, none⟩ = some (.string p) := hBa (.cells #[.int .u8 92, .bool false, .bool false] 86)
          obtain ⟨fn, tmps, assign, body, hy, hR⟩ := hY pre (⟨92, false, false⟩ : Pc) _ hJ1 (by omega)
          dsimp only at hy
          gi_wp2
          refine hR.mono ?_
          rintro e W3 (⟨rfl, hJ3, hk3⟩ | ⟨rfl, hJx3⟩)
          · have hz3 := hk3.1
            have hB3 := hk3.2 _ hB1
            gi_wp2
            go_roundw
            case rel => exact ⟨k + 1, pre ++ [(⟨92, false, false⟩ : Pc)], by omega, by go_num, by simp; omega, hnext, hJ3, hB3, by simp at hz3; omega⟩
            case measure => simp [intOf]; omega
          · gi_wp2
            refine bodyPost_ret (results_none rfl _ _ _) rfl ?_
            exact ⟨⟨_, rfl⟩, .inr ⟨pre ++ [(⟨92, false, false⟩ : Pc)], ⟨_, hnext.out.symm⟩, hJx3⟩⟩
        · have e1 : ((p[k].toNat : Int) == 92) = false := by rw [beq_eq_false_iff_ne]; omega
          have hnext := hnext0
          gi_wp2
          gi_region
          have hJ1 := hJ pre wr (wr.alloc (.cells #[.int .u8 (p[k].toNat : Int), .bool ((p[k].toNat : Int) == 63), .bool ((p[k].toNat : Int) == 42)] 86)).drew none hJs (grown_drew (World.grownBy_alloc wr _ none)) (fun r e => by cases e)
          have hB1 : (wr.alloc (.cells #[.int .u8 (p[k].toNat : Int), .bool ((p[k].toNat : Int) == 63), .bool ((p[k].toNat : Int) == 42)] 86)).drew.cell? ⟨Bn, 0, none⟩ = some (.string p) := hBa (.cells #[.int .u8 (p[k].toNat : Int), .bool ((p[k].toNat : Int) == 63), .bool ((p[k].toNat : Int) == 42)] 86)
          obtain ⟨fn, tmps, assign, body, hy, hR⟩ := hY pre (⟨(p[k].toNat : Int), ((p[k].toNat : Int) == 63), ((p[k].toNat : Int) == 42)⟩ : Pc) _ hJ1 (by omega)
          dsimp only at hy
          gi_wp2
          refine hR.mono ?_
          rintro e W3 (⟨rfl, hJ3, hk3⟩ | ⟨rfl, hJx3⟩)
          · have hz3 := hk3.1
            have hB3 := hk3.2 _ hB1
            gi_wp2
            go_roundw
            case rel => exact ⟨k + 1, pre ++ [(⟨(p[k].toNat : Int), ((p[k].toNat : Int) == 63), ((p[k].toNat : Int) == 42)⟩ : Pc)], by omega, by go_num, by simp; omega, hnext, hJ3, hB3, by simp at hz3; omega⟩
            case measure => simp [intOf]; omega
          · gi_wp2
            refine bodyPost_ret (results_none rfl _ _ _) rfl ?_
            exact ⟨⟨_, rfl⟩, .inr ⟨pre ++ [(⟨(p[k].toNat : Int), ((p[k].toNat : Int) == 63), ((p[k].toNat : Int) == 42)⟩ : Pc)], ⟨_, hnext.out.symm⟩, hJx3⟩⟩
    · obtain rfl : k = p.size := by omega
      gi_wp2
      go_end0
      exact ⟨⟨_, rfl⟩, .inl ⟨pre, by rw [hpre.out, List.drop_eq_nil_of_le (by omega)]; simp [piecesOf], hJs.out⟩⟩
/-- glob.pieces hands back an iterator over the pieces. -/
theorem pieces_stops (F : Fence) (n : Nat) (h61 : F.fn 61) (hro : F.round = none) (hn : 1 ≤ n) (Bn : Nat) (p : ByteArray) (hp : p.size ≤ 1048576) (w : World) (hb : Bn < w.heap.size) (hc : w.cell? ⟨Bn, 0, none⟩ = some (.string p)) :
    SeqStopsK F n Try.prog 61 #[.pointer (some ⟨Bn, 0, none⟩)] (fun x : Pc => #[Value.agg #[.int .u8 x.c, .bool x.one, .bool x.many]]) (KpC Bn) (fun ys => ys = piecesOf (bytesOf p)) (fun pre => pre <+: piecesOf (bytesOf p)) p.size w := fun l J Jx W hW hJ _ hY h0 =>
  pieces1_in F n h61 hro hn l Bn W (by have := hW.size; omega) p hp J Jx hJ hY ((hW.cell (p := ⟨Bn, 0, none⟩) hb).trans hc) h0
set_option maxHeartbeats 1000000 in
theorem pieces_in (F : Fence) (n : Nat) (h49 : F.fn 49) (hro : F.round = none) (p : ByteArray) (w : World) :
    CallsIn F n Try.prog 49 #[.string p] w fun e w' => e = .returned (.func (.func 61) #[] #[.pointer (some ⟨w.heap.size, 0, none⟩)]) ∧ w' = w.alloc (.cells #[.string p] 9) := by
  refine callsIn_of_wp Try.func49 rfl h49 ?_ hro
  simp only [Try.ntmps49, List.size_toArray, List.length_cons, List.length_nil, Nat.reduceAdd, Nat.reduceSub, Array.replicate_succ, Array.replicate_zero, List.push_toArray, List.append_toArray, List.nil_append, List.cons_append]
  gi_wp2
  go_ret
  exact ⟨rfl, rfl⟩
end Go.Proofs.Ytioemcfadniokaa.H
