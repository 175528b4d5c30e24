/- The walks of the functions over tapes. -/
import Derived.Test.YtioemcfadniokaaU
import Derived.Test.YtioemcfadniokaaProg
namespace Go.Proofs.Ytioemcfadniokaa.H
open Go.RowKit Go.Proofs.YtioemcfadniokaaW.PrintWords Go.Proofs.YtioemcfadniokaaW.PrintLast Go.Proofs.YtioemcfadniokaaW.PrintMore Go.Proofs.Ytioemcfadniokaa.U
set_option linter.unusedVariables false
set_option linter.unusedSimpArgs false
theorem rowU8 : RowT Try.prog (Kd.int .u8) 30 5 1 (.int .u8 0) :=
  ⟨Try.underlying30, by kernel_rfl, rfl, by decide, by decide, flat_scalar⟩

set_option maxHeartbeats 1000000 in
set_option maxRecDepth 100000 in
theorem tapes_calls (A : Option Addr) (c : Nat) (l : List Int) (s : Int) (w : World) (hr : Kd.C (Kd.int .u8) w A l.length l) (hl : l.length ≤ 140737488355328) :
    Calls Try.prog 16 #[.agg #[.slice A l.length c, .int .i64 s]] w fun e w' => ∃ v : Value, e = .returned (.agg #[v, .int .i64 s]) ∧ Kd.R (Kd.int .u8) 5 w' w.heap.size (fun _ => True) v l ∧ Below w.heap.size w w' := by
  go_enter Try.func16, Try.ntmps16
  go_wp2
  go_region_held3 (fun w' => w'.cell? ⟨w.heap.size, 0, none⟩ = some (.slice A l.length c) ∧ w'.cell? ⟨w.heap.size, 1, none⟩ = some (.int .i64 s))
    (first | go_keep | (refine ⟨?_, ?_⟩ <;> (rw [hc _ _ (by simp; omega)]; simp)))
    ((refine clone_step rowU8 (by rfl) _ _ (by rfl) l A c (by rfl) (by rfl) (Kd.C_below hr (by repeat (first | exact Below.refl _ _ | apply below_alloc | apply pw_below_drewN | apply below_drew1))) (by omega) ?_; intro A1 c1 w1 hR hb1; obtain ⟨hc, hf⟩ := bcell hb1))
  go_wp2
  have hz := hb1.size
  simp at hz
  refine bodyPost_ret (v := .agg #[.slice A1 l.length c1, .int .i64 s]) (by simp [results, Try.results16, go_sem, hc]) rfl ⟨_, rfl, ?_, ?_⟩
  · exact Kd.R_lower (R_elder (R_elder hR (by simp) _) (by simp) _) (by simp; omega)
  · exact ((((((Below.refl w.heap.size w).alloc (Nat.le_refl _) _).alloc (by simp) _).drew).trans (hb1.mono (by simp; omega))).setCell (by simp) _).setCell (by simp) _

set_option maxHeartbeats 1000000 in
set_option maxRecDepth 100000 in
theorem cloneBytes_calls (A : Option Addr) (c : Nat) (l : List Int) (w : World) (hr : Kd.C (Kd.int .u8) w A l.length l) (hl : l.length ≤ 140737488355328) :
    Calls Try.prog 53 #[.slice A l.length c] w fun e w' => ∃ v : Value, e = .returned v ∧ Kd.R (Kd.int .u8) 5 w' w.heap.size (fun _ => True) v l ∧ Below w.heap.size w w' := by
  have hnil := fun (w : World) (a : Option Addr) (n c n' c' : Nat) => Lib.run_eql_slice_nil (P := Try.prog) w 30 5 a n c n' c' Try.underlying30
  cases A with
  | none =>
    obtain ⟨rfl, _⟩ := C_nil _ w rfl hr
    go_enter Try.func53, Try.ntmps53
    go_wp2
    go_ret
    exact ⟨_, rfl, Kd.R_nil _ _ _ _ _, Below.refl _ _⟩
  | some ad =>
    go_enter Try.func53, Try.ntmps53
    go_wp2_with (at_builtin; refine rows_list rowU8 w.heap.size rfl _ _ rfl (.slice (some ⟨w.heap.size, 0, none⟩) 0 0) [] l (some ad) c rfl rfl (R_lit0 _ _ _) (Kd.C_below hr (by repeat (first | exact Below.refl _ _ | apply below_alloc | apply pw_below_drewN | apply below_drew1))) (by simp) (by simp; omega) ?_; intro v1 w1 hR hb1 hg1)
    go_ret
    exact ⟨_, rfl, hR, ((Below.refl _ _).alloc (Nat.le_refl _) _).trans hb1⟩

set_option maxHeartbeats 1000000 in
set_option maxRecDepth 100000 in
theorem open_yes (A : Option Addr) (c : Nat) (l : List Int) (s : Int) (w : World) (hr : Kd.C (Kd.int .u8) w A l.length l) (h0 : 0 ≤ s) (h1 : s ≤ l.length) (h2 : l.length ≤ 100000) :
    Calls Try.prog 35 #[.agg #[.slice A l.length c, .int .i64 s]] w fun e w' => ∃ v : Value, e = .returned (.tuple #[.agg #[v, .int .i64 s], .bool true]) ∧ Kd.R (Kd.int .u8) 5 w' w.heap.size (fun _ => True) v l ∧ Below w.heap.size w w' := by
  go_enter Try.func35, Try.ntmps35
  go_wp2
  go_region_held3 (fun w' => w'.cell? ⟨w.heap.size, 0, none⟩ = some (.slice A l.length c) ∧ w'.cell? ⟨w.heap.size, 1, none⟩ = some (.int .i64 s))
    (first | go_keep | (refine ⟨?_, ?_⟩ <;> (rw [hc _ _ (by simp; omega)]; simp)))
    ((go_at_call 53; refine (cloneBytes_calls A c l _ (Kd.C_below hr (by repeat (first | exact Below.refl _ _ | apply below_alloc | apply pw_below_drewN | apply below_drew1))) (by omega)).mono ?_; rintro e w1 ⟨v1, rfl, hR, hb1⟩; obtain ⟨A1, c1, rfl⟩ := Kd.R_slice hR; obtain ⟨hc, hf⟩ := bcell hb1))
  go_wp2
  have hz := hb1.size
  simp at hz
  refine bodyPost_ret (v := .tuple #[.agg #[.slice A1 l.length c1, .int .i64 s], .bool true]) (by simp [results, Try.results35, go_sem, hc]) rfl ⟨_, rfl, ?_, ?_⟩
  · exact Kd.R_lower (R_elder (R_elder hR (by simp) _) (by simp) _) (by simp; omega)
  · exact ((((((Below.refl w.heap.size w).alloc (Nat.le_refl _) _).alloc (by simp) _).drew).trans (hb1.mono (by simp; omega))).setCell (by simp) _).setCell (by simp) _
set_option maxHeartbeats 1000000 in
set_option maxRecDepth 100000 in
theorem open_no (A : Option Addr) (c : Nat) (l : List Int) (s : Int) (w : World) (hb : ¬ (0 ≤ s ∧ s ≤ l.length ∧ l.length ≤ 100000)) (hl : l.length ≤ 140737488355328) :
    Calls Try.prog 35 #[.agg #[.slice A l.length c, .int .i64 s]] w fun e w' => e = .returned (.tuple #[.agg #[.slice none 0 0, .int .i64 0], .bool false]) ∧ Below w.heap.size w w' := by
  rcases (by omega : s < 0 ∨ (0 ≤ s ∧ (l.length : Int) < s) ∨ (0 ≤ s ∧ s ≤ l.length ∧ 100000 < l.length)) with h | ⟨h, h'⟩ | ⟨h, h', h''⟩
  all_goals
    clear hb
    go_enter Try.func35, Try.ntmps35
    go_wp2
    exact bodyPost_ret (v := .tuple #[.agg #[.slice none 0 0, .int .i64 0], .bool false]) (by simp [results, Try.results35, go_sem]) rfl ⟨rfl, by repeat (first | exact Below.refl _ _ | apply below_alloc | apply pw_below_drewN | apply below_drew1)⟩

set_option maxHeartbeats 1000000 in
set_option maxRecDepth 100000 in
theorem sync_yes (A : Option Addr) (c : Nat) (l : List Int) (s : Int) (w : World) (hr : Kd.C (Kd.int .u8) w A l.length l) (h0 : 0 ≤ s) (h1 : s ≤ l.length) (h2 : l.length ≤ 100000) :
    Calls Try.prog 17 #[.agg #[.slice A l.length c, .int .i64 s]] w fun e w' => ∃ v : Value, e = .returned (.tuple #[.agg #[v, .int .i64 l.length], .int .i64 0]) ∧ Kd.R (Kd.int .u8) 5 w' w.heap.size (fun _ => True) v l ∧ Below w.heap.size w w' := by
  go_enter Try.func17, Try.ntmps17
  go_wp2_with fail
  refine (open_yes A c l s _ (Kd.C_below hr (by repeat (first | exact Below.refl _ _ | apply below_alloc | apply pw_below_drewN | apply below_drew1))) h0 h1 h2).mono ?_
  rintro e w1 ⟨v1, rfl, hR, hb1⟩
  obtain ⟨A1, c1, rfl⟩ := Kd.R_slice hR
  obtain ⟨hc, hf⟩ := bcell hb1
  have hz : w.heap.size + 1 < w1.heap.size := by have := hb1.size; simp at this; omega
  go_wp2
  refine bodyPost_ret (v := .tuple #[.agg #[.slice A1 l.length c1, .int .i64 l.length], .int .i64 0]) (by simp [results, Try.results17, go_sem, hc, hz]) rfl ⟨_, rfl, ?_, ?_⟩
  · exact Kd.R_lower (Kd.R_alloc (R_elder (R_elder hR (by simp) _) (by simp) _) _) (by simp; omega)
  · exact (by repeat (first | exact Below.refl _ _ | apply below_alloc | apply pw_below_drewN | apply below_drew1 | (refine Below.setCell ?_ (by first | (simp; done) | (simp; omega) | omega) _) | (refine below_then ?_ (by first | (simp; done) | (simp; omega) | omega) hb1)))
set_option maxHeartbeats 1000000 in
set_option maxRecDepth 100000 in
theorem sync_no (A : Option Addr) (c : Nat) (l : List Int) (s : Int) (w : World) (hb : ¬ (0 ≤ s ∧ s ≤ l.length ∧ l.length ≤ 100000)) (hl : l.length ≤ 140737488355328) :
    Calls Try.prog 17 #[.agg #[.slice A l.length c, .int .i64 s]] w fun e w' => e = .returned (.tuple #[.agg #[.slice none 0 0, .int .i64 0], .int .i64 11]) ∧ Below w.heap.size w w' := by
  go_enter Try.func17, Try.ntmps17
  go_wp2_with fail
  refine (open_no A c l s _ hb hl).mono ?_
  rintro e w1 ⟨rfl, hb1⟩
  obtain ⟨hc, hf⟩ := bcell hb1
  have hz : w.heap.size + 1 < w1.heap.size := by have := hb1.size; simp at this; omega
  go_wp2
  refine bodyPost_ret (v := .tuple #[.agg #[.slice none 0 0, .int .i64 0], .int .i64 11]) (by simp [results, Try.results17, go_sem, *]) rfl ⟨rfl, (by repeat (first | exact Below.refl _ _ | apply below_alloc | apply pw_below_drewN | apply below_drew1 | (refine Below.setCell ?_ (by first | (simp; done) | (simp; omega) | omega) _) | (refine below_then ?_ (by first | (simp; done) | (simp; omega) | omega) hb1)))⟩

set_option maxHeartbeats 1000000 in
set_option maxRecDepth 100000 in
theorem sameTape_calls (A : Option Addr) (c : Nat) (A2 : Option Addr) (c2 : Nat) (l : List Int) (s : Int) (w : World) (hr : Kd.C (Kd.int .u8) w A l.length l) (hr2 : Kd.C (Kd.int .u8) w A2 l.length l) :
    Calls Try.prog 19 #[.agg #[.slice A l.length c, .int .i64 s], .agg #[.slice A2 l.length c2, .int .i64 s]] w fun e w' => e = .returned (.bool true) ∧ Below w.heap.size w w' := by
  have h1 := Kd.C_string (P := Try.prog) (src := 30) (dst := 9) (c := c) Try.underlying30 Try.underlying5 Try.underlying9 (Kd.C_below hr (below_alloc (below_alloc (Below.refl w.heap.size w) (.cells #[.slice A l.length c, .int .i64 s] 32)) (.cells #[.slice A2 l.length c2, .int .i64 s] 32)))
  have h2 := Kd.C_string (P := Try.prog) (src := 30) (dst := 9) (c := c2) Try.underlying30 Try.underlying5 Try.underlying9 (Kd.C_below hr2 (below_alloc (below_alloc (Below.refl w.heap.size w) (.cells #[.slice A l.length c, .int .i64 s] 32)) (.cells #[.slice A2 l.length c2, .int .i64 s] 32)))
  go_enter Try.func19, Try.ntmps19
  go_wp2
  go_ret
  exact ⟨by simp, (by repeat (first | exact Below.refl _ _ | apply below_alloc | apply pw_below_drewN | apply below_drew1 | (refine Below.setCell ?_ (by first | (simp; done) | (simp; omega) | omega) _) ))⟩

theorem in_calls (a b c : Int) (w : World) : Calls Try.prog 32 #[.int .i64 a, .int .i64 b, .int .i64 c] w fun e w' => e = .returned (.bool (decide (b ≤ a) && decide (a ≤ c))) ∧ w = w' := by
  by_cases h : b ≤ a
  all_goals
    go_enter Try.func32, Try.ntmps32
    go_wp2
    go_ret
    exact ⟨by first | (simp [h]; done) | (simp; omega), rfl⟩
theorem in_yes (a b c : Int) (w : World) (h1 : b ≤ a) (h2 : a ≤ c) : Calls Try.prog 32 #[.int .i64 a, .int .i64 b, .int .i64 c] w fun e w' => e = .returned (.bool true) ∧ w = w' :=
  (in_calls a b c w).mono fun e w' ⟨he, hw⟩ => ⟨by rw [he]; simp [h1, h2], hw⟩
theorem in_no (a b c : Int) (w : World) (h : ¬ (b ≤ a ∧ a ≤ c)) : Calls Try.prog 32 #[.int .i64 a, .int .i64 b, .int .i64 c] w fun e w' => e = .returned (.bool false) ∧ w = w' :=
  (in_calls a b c w).mono fun e w' ⟨he, hw⟩ => ⟨by rw [he]; simp; omega, hw⟩
end Go.Proofs.Ytioemcfadniokaa.H
