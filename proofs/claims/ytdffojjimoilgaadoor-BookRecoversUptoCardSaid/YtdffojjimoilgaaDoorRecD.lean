/- Batches: sameBatches. -/
import Derived.Test.YtdffojjimoilgaaDoorRecA
import Derived.Test.YtdffojjimoilgaaDoorBatchA
namespace Go.Proofs.YtdffojjimoilgaaDoor.H
open Go.RowKit Go.Proofs.YtdffojjimoilgaaDoorW.PrintWords Go.Proofs.YtdffojjimoilgaaDoorW.PrintLast Go.Proofs.YtdffojjimoilgaaDoorW.PrintMore Go.Proofs.YtdffojjimoilgaaDoor.U
set_option linter.unusedVariables false
set_option linter.unusedSimpArgs false
theorem kB_at {w : World} {A : Option Addr} {n : Nat} {xs : List (Int × List AEntry)} (h : kB.C w A n xs) (k : Nat) (hk : k < xs.length) :
    ∃ ad Ae ce, A = some ad ∧ w.cell? (ad.add (k * 2)) = some (.int .i64 xs[k].1) ∧ w.cell? (ad.add (k * 2 + 1)) = some (.slice Ae xs[k].2.length ce) ∧ Kd.C kAEntry w Ae xs[k].2.length xs[k].2 := by
  have hn : xs.length = n := h.1
  obtain ⟨ad, e, hc⟩ := h.2.2 (by omega)
  obtain ⟨cs, _, hK, hcell⟩ := hc k _ (List.getElem?_eq_getElem hk)
  obtain ⟨c0, c1, hcs, h0, ⟨Ae, ce, h1, _, hC⟩⟩ := hK
  have h0' : c0 = [.int .i64 xs[k].1] := h0
  subst h0' h1 hcs
  exact ⟨ad, Ae, ce, e, hcell 0 _ rfl, hcell 1 _ rfl, hC⟩
set_option maxHeartbeats 1000000 in
set_option maxRecDepth 100000 in
theorem sameBatches_calls (A : Option Addr) (c : Nat) (A2 : Option Addr) (c2 : Nat) (l : List (Int × List AEntry)) (w : World) (hr : kB.C w A l.length l) (hr2 : kB.C w A2 l.length l) :
    Calls Tryd.prog 26 #[.slice A l.length c, .slice A2 l.length c2] w fun e w' => e = .returned (.bool true) ∧ Below w.heap.size w w' := by
  have h63 := hr.2.1
  go_enter Tryd.func26, Tryd.ntmps26
  go_wp2_with fail
  go_loopw [5] (fun i wr => ∃ k : Nat, k ≤ l.length ∧ i = .int .i64 k ∧ Below w.heap.size w wr) (fun i _ => l.length - (intOf i).toNat)
  case atStart => exact ⟨0, Nat.zero_le _, rfl, Below.refl _ _⟩
  case round =>
    obtain ⟨k, hk, rfl, hB⟩ := hrel
    by_cases hlt : k < l.length
    · obtain ⟨ad, Ae, ce, e1, x0, x1, hC⟩ := kB_at (Kd.C_below hr hB) k hlt
      obtain ⟨ad2, Ae2, ce2, e2, y0, y1, hC2⟩ := kB_at (Kd.C_below hr2 hB) k hlt
      subst e1 e2
      have ea : ∀ a : Addr, a.add 1 = ⟨a.block, a.off + 1, none⟩ := fun a => by simp [Addr.add]
      rw [← add_add, ea] at x1 y1
      generalize l[k].1 = u at *
      generalize l[k].2 = es at *
      have HS := Lib.hid (fun W (h : Below wr.heap.size wr W) => sameBatch_calls u Ae ce Ae2 ce2 es W (Kd.C_below hC h) (Kd.C_below hC2 h))
      have i0 : (0 : Int) ≤ (k : Int) := by omega
      have i1 : (k : Int) < (l.length : Int) := by omega
      have x0d := cell_drew' x0
      have x1d := cell_drew' x1
      have y0d := cell_drew' y0
      have y1d := cell_drew' y1
      go_wp2_with fail
      go_region_held3 (fun w' => w'.cell? (ad.add (k * 2)) = some (.int .i64 u) ∧ w'.cell? ⟨(ad.add (k * 2)).block, (ad.add (k * 2)).off + 1, none⟩ = some (.slice Ae es.length ce) ∧ w'.cell? (ad2.add (k * 2)) = some (.int .i64 u) ∧ w'.cell? ⟨(ad2.add (k * 2)).block, (ad2.add (k * 2)).off + 1, none⟩ = some (.slice Ae2 es.length ce2))
        (first | exact ⟨x0d, x1d, y0d, y1d⟩ | exact ⟨k0, k1, k2, k3⟩ | go_keep)
        ((go_at_call 17; refine (HS.out _ (by repeat (first | exact Below.refl _ _ | apply below_alloc | apply pw_below_drewN | apply below_drew1 | (refine Below.setCell ?_ (by first | (simp; done) | (simp; omega) | omega) _) ))).mono ?_; rintro e w5 ⟨rfl, hb5⟩; have k0 := (hb5.cell (lt_of_cell' x0d)).trans x0d; have k1 := (hb5.cell (lt_of_cell' x1d)).trans x1d; have k2 := (hb5.cell (lt_of_cell' y0d)).trans y0d; have k3 := (hb5.cell (lt_of_cell' y1d)).trans y1d))
      go_wp2_with fail
      go_roundw
      case rel => exact ⟨k + 1, by omega, by go_num, hB.trans ((Below.trans (show Below wr.heap.size wr wr.drew from (by repeat (first | exact Below.refl _ _ | apply below_alloc | apply pw_below_drewN | apply below_drew1 | (refine Below.setCell ?_ (by first | (simp; done) | (simp; omega) | omega) _) ))) (hb5.mono (by simp))).mono hB.size)⟩
      case measure => simp [intOf]; omega
    · obtain rfl : k = l.length := by omega
      have i1 : ¬ (l.length : Int) < (l.length : Int) := by omega
      go_wp2_with fail
      go_ret
      exact ⟨rfl, hB⟩
end Go.Proofs.YtdffojjimoilgaaDoor.H
