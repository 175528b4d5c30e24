/- The walks of the reference's functions over tapes, and of the laws BookSyncs and BookCrashes. -/
import Derived.Test.YtdffojjimoilgaaDoorTapeA
namespace Go.Proofs.YtdffojjimoilgaaDoor.H
open Go.RowKit Go.Proofs.YtdffojjimoilgaaDoorW.PrintWords Go.Proofs.YtdffojjimoilgaaDoorW.PrintLast Go.Proofs.YtdffojjimoilgaaDoorW.PrintMore Go.Proofs.YtdffojjimoilgaaDoor.U
set_option linter.unusedVariables false
set_option linter.unusedSimpArgs false
set_option maxHeartbeats 1000000 in
set_option maxRecDepth 100000 in
theorem joined_calls (A : Option Addr) (c : Nat) (l : List Int) (A2 : Option Addr) (c2 : Nat) (l2 : List Int) (w : World) (hr : Kd.C (Kd.int .u8) w A l.length l) (hr2 : Kd.C (Kd.int .u8) w A2 l2.length l2) (hl : l.length + l2.length ≤ 140737488355328) :
    Calls Tryd.prog 44 #[.slice A l.length c, .slice A2 l2.length c2] w fun e w' => ∃ v : Value, e = .returned v ∧ Kd.R (Kd.int .u8) 5 w' w.heap.size (fun _ => True) v (l ++ l2) ∧ Below w.heap.size w w' := by
  go_enter Tryd.func44, Tryd.ntmps44
  go_wp2
  go_loopw [5, 6] (fun v i wr => ∃ k : Nat, k ≤ l.length ∧ i = .int .i64 k ∧ Kd.R (Kd.int .u8) 5 wr w.heap.size (fun _ => True) v (l.take k) ∧ Below w.heap.size w wr) (fun _ i _ => l.length - (intOf i).toNat)
  case atStart => exact ⟨0, Nat.zero_le _, rfl, Kd.R_nil _ _ _ _ _, Below.refl _ _⟩
  case round =>
    obtain ⟨k, hk, rfl, hR, hB⟩ := hrel
    by_cases hlt : k < l.length
    · obtain ⟨ad, e1, hx⟩ := int_at (Kd.C_below hr hB) k hlt
      subst e1
      have hts := Lib.hid (take_rd l k hlt)
      have hlen : (l.take k).length ≤ k := List.length_take_le _ _
      go_wp2_with (at_builtin; refine snoc_list rowU8 w.heap.size rfl _ _ rfl u5 (l.take k) (rd l k) [.int .u8 (rd l k)] rfl rfl rfl hR hB.size (by omega) ?_; intro v1 w1 hR1 hb1 hg1)
      go_roundw
      case rel => exact ⟨k + 1, by omega, by go_num, by rw [hts.out]; exact hR1, hB.trans hb1⟩
      case measure => simp [intOf]; omega
    · obtain rfl : k = l.length := by omega
      rw [List.take_length] at hR
      go_wp2
      go_loopw [5, 7] (fun v i wr => ∃ k : Nat, k ≤ l2.length ∧ i = .int .i64 k ∧ Kd.R (Kd.int .u8) 5 wr w.heap.size (fun _ => True) v (l ++ l2.take k) ∧ Below w.heap.size w wr) (fun _ i _ => l2.length - (intOf i).toNat)
      case atStart => exact ⟨0, Nat.zero_le _, rfl, by simpa using hR, hB⟩
      case round =>
        clear hR hB
        obtain ⟨k, hk, rfl, hR, hB⟩ := hrel
        by_cases hlt : k < l2.length
        · obtain ⟨ad, e1, hx⟩ := int_at (Kd.C_below hr2 hB) k hlt
          subst e1
          have hts := Lib.hid (take_rd l2 k hlt)
          have hlen : (l2.take k).length ≤ k := List.length_take_le _ _
          go_wp2_with (at_builtin; refine snoc_list rowU8 w.heap.size rfl _ _ rfl u5 (l ++ l2.take k) (rd l2 k) [.int .u8 (rd l2 k)] rfl rfl rfl hR hB.size (by simp; omega) ?_; intro v1 w1 hR1 hb1 hg1)
          go_roundw
          case rel => exact ⟨k + 1, by omega, by go_num, by rw [hts.out, ← List.append_assoc]; exact hR1, hB.trans hb1⟩
          case measure => simp [intOf]; omega
        · obtain rfl : k = l2.length := by omega
          rw [List.take_length] at hR
          go_wp2
          go_ret
          exact ⟨_, rfl, hR, hB⟩
set_option maxHeartbeats 1000000 in
set_option maxRecDepth 100000 in
theorem tapeMay_yes (A : Option Addr) (c : Nat) (l : List Int) (s : Int) (w : World) (h0 : 0 ≤ s) (h1 : s ≤ l.length) (h2 : l.length ≤ 100000) :
    Calls Tryd.prog 49 #[.agg #[.slice A l.length c, .int .i64 s]] w fun e w' => e = .returned (.bool true) ∧ Below w.heap.size w w' := by
  go_enter Tryd.func49, Tryd.ntmps49
  go_wp2_with (go_at_call 40; refine (in_calls _ _ _ _).mono ?_; rintro e w' ⟨rfl, rfl⟩)
  go_ret
  exact ⟨by simp [h0, h1], (by repeat (first | exact Below.refl _ _ | apply below_alloc | apply pw_below_drewN | apply below_drew1 | (refine Below.setCell ?_ (by first | (simp; done) | (simp; omega) | omega) _) ))⟩
set_option maxHeartbeats 1000000 in
set_option maxRecDepth 100000 in
theorem tapeMay_no (A : Option Addr) (c : Nat) (l : List Int) (s : Int) (w : World) (hb : ¬ (0 ≤ s ∧ s ≤ l.length ∧ l.length ≤ 100000)) (hl : l.length ≤ 140737488355328) :
    Calls Tryd.prog 49 #[.agg #[.slice A l.length c, .int .i64 s]] w fun e w' => e = .returned (.bool false) ∧ Below w.heap.size w w' := by
  by_cases h2 : l.length ≤ 100000
  all_goals
    go_enter Tryd.func49, Tryd.ntmps49
    go_wp2_with (go_at_call 40; refine (in_calls _ _ _ _).mono ?_; rintro e w' ⟨rfl, rfl⟩)
    go_ret
    exact ⟨by first | (simp; done) | (simp; omega), (by repeat (first | exact Below.refl _ _ | apply below_alloc | apply pw_below_drewN | apply below_drew1 | (refine Below.setCell ?_ (by first | (simp; done) | (simp; omega) | omega) _) ))⟩
end Go.Proofs.YtdffojjimoilgaaDoor.H
