/- The walks of the functions over tapes. -/
import Derived.Test.YtdffojjimoilgaaDoorBase
import Derived.Test.YtdffojjimoilgaaDoorProg
namespace Go.Proofs.YtdffojjimoilgaaDoor.H
open Go.RowKit Go.Proofs.YtdffojjimoilgaaDoorW.PrintWords Go.Proofs.YtdffojjimoilgaaDoorW.PrintLast Go.Proofs.YtdffojjimoilgaaDoorW.PrintMore Go.Proofs.YtdffojjimoilgaaDoor.U
set_option linter.unusedVariables false
set_option linter.unusedSimpArgs false

set_option maxHeartbeats 1000000 in
set_option maxRecDepth 100000 in
theorem tapes_calls (A : Option Addr) (c : Nat) (l : List Int) (s : Int) (w : World) (hr : Kd.C (Kd.int .u8) w A l.length l) (hl : l.length ≤ 140737488355328) :
    Calls Tryd.prog 20 #[.agg #[.slice A l.length c, .int .i64 s]] w fun e w' => ∃ v : Value, e = .returned (.agg #[v, .int .i64 s]) ∧ Kd.R (Kd.int .u8) 5 w' w.heap.size (fun _ => True) v l ∧ Below w.heap.size w w' := by
  go_enter Tryd.func20, Tryd.ntmps20
  go_wp2
  go_region_held3 (fun w' => w'.cell? ⟨w.heap.size, 0, none⟩ = some (.slice A l.length c) ∧ w'.cell? ⟨w.heap.size, 1, none⟩ = some (.int .i64 s))
    (first | go_keep | (refine ⟨?_, ?_⟩ <;> (rw [hc _ _ (by simp; omega)]; simp)))
    ((refine clone_step rowU8 (by rfl) _ _ (by rfl) l A c (by rfl) (by rfl) (Kd.C_below hr (by repeat (first | exact Below.refl _ _ | apply below_alloc | apply pw_below_drewN | apply below_drew1))) (by omega) ?_; intro A1 c1 w1 hR hb1; obtain ⟨hc, hf⟩ := bcell hb1))
  go_wp2
  have hz := hb1.size
  simp at hz
  refine bodyPost_ret (v := .agg #[.slice A1 l.length c1, .int .i64 s]) (by simp [results, Tryd.results20, go_sem, hc]) rfl ⟨_, rfl, ?_, ?_⟩
  · exact Kd.R_lower (R_elder (R_elder hR (by simp) _) (by simp) _) (by simp; omega)
  · exact ((((((Below.refl w.heap.size w).alloc (Nat.le_refl _) _).alloc (by simp) _).drew).trans (hb1.mono (by simp; omega))).setCell (by simp) _).setCell (by simp) _

set_option maxHeartbeats 1000000 in
set_option maxRecDepth 100000 in
theorem cloneBytes_calls (A : Option Addr) (c : Nat) (l : List Int) (w : World) (hr : Kd.C (Kd.int .u8) w A l.length l) (hl : l.length ≤ 140737488355328) :
    Calls Tryd.prog 65 #[.slice A l.length c] w fun e w' => ∃ v : Value, e = .returned v ∧ Kd.R (Kd.int .u8) 5 w' w.heap.size (fun _ => True) v l ∧ Below w.heap.size w w' := by
  have hnil := fun (w : World) (a : Option Addr) (n c n' c' : Nat) => Lib.run_eql_slice_nil (P := Tryd.prog) w 29 5 a n c n' c' Tryd.underlying29
  cases A with
  | none =>
    obtain ⟨rfl, _⟩ := C_nil _ w rfl hr
    go_enter Tryd.func65, Tryd.ntmps65
    go_wp2
    go_ret
    exact ⟨_, rfl, Kd.R_nil _ _ _ _ _, Below.refl _ _⟩
  | some ad =>
    go_enter Tryd.func65, Tryd.ntmps65
    go_wp2_with (at_builtin; refine rows_list rowU8 w.heap.size rfl _ _ rfl (.slice (some ⟨w.heap.size, 0, none⟩) 0 0) [] l (some ad) c rfl rfl (R_lit0 _ _ _) (Kd.C_below hr (by repeat (first | exact Below.refl _ _ | apply below_alloc | apply pw_below_drewN | apply below_drew1))) (by simp) (by simp; omega) ?_; intro v1 w1 hR hb1 hg1)
    go_ret
    exact ⟨_, rfl, hR, ((Below.refl _ _).alloc (Nat.le_refl _) _).trans hb1⟩

set_option maxHeartbeats 1000000 in
set_option maxRecDepth 100000 in
theorem open_yes (A : Option Addr) (c : Nat) (l : List Int) (s : Int) (w : World) (hr : Kd.C (Kd.int .u8) w A l.length l) (h0 : 0 ≤ s) (h1 : s ≤ l.length) (h2 : l.length ≤ 100000) :
    Calls Tryd.prog 48 #[.agg #[.slice A l.length c, .int .i64 s]] w fun e w' => ∃ v : Value, e = .returned (.tuple #[.agg #[v, .int .i64 s], .bool true]) ∧ Kd.R (Kd.int .u8) 5 w' w.heap.size (fun _ => True) v l ∧ Below w.heap.size w w' := by
  go_enter Tryd.func48, Tryd.ntmps48
  go_wp2
  go_region_held3 (fun w' => w'.cell? ⟨w.heap.size, 0, none⟩ = some (.slice A l.length c) ∧ w'.cell? ⟨w.heap.size, 1, none⟩ = some (.int .i64 s))
    (first | go_keep | (refine ⟨?_, ?_⟩ <;> (rw [hc _ _ (by simp; omega)]; simp)))
    ((go_at_call 65; refine (cloneBytes_calls A c l _ (Kd.C_below hr (by repeat (first | exact Below.refl _ _ | apply below_alloc | apply pw_below_drewN | apply below_drew1))) (by omega)).mono ?_; rintro e w1 ⟨v1, rfl, hR, hb1⟩; obtain ⟨A1, c1, rfl⟩ := Kd.R_slice hR; obtain ⟨hc, hf⟩ := bcell hb1))
  go_wp2
  have hz := hb1.size
  simp at hz
  refine bodyPost_ret (v := .tuple #[.agg #[.slice A1 l.length c1, .int .i64 s], .bool true]) (by simp [results, Tryd.results48, go_sem, hc]) rfl ⟨_, rfl, ?_, ?_⟩
  · exact Kd.R_lower (R_elder (R_elder hR (by simp) _) (by simp) _) (by simp; omega)
  · exact ((((((Below.refl w.heap.size w).alloc (Nat.le_refl _) _).alloc (by simp) _).drew).trans (hb1.mono (by simp; omega))).setCell (by simp) _).setCell (by simp) _
set_option maxHeartbeats 1000000 in
set_option maxRecDepth 100000 in
theorem open_no (A : Option Addr) (c : Nat) (l : List Int) (s : Int) (w : World) (hb : ¬ (0 ≤ s ∧ s ≤ l.length ∧ l.length ≤ 100000)) (hl : l.length ≤ 140737488355328) :
    Calls Tryd.prog 48 #[.agg #[.slice A l.length c, .int .i64 s]] w fun e w' => e = .returned (.tuple #[.agg #[.slice none 0 0, .int .i64 0], .bool false]) ∧ Below w.heap.size w w' := by
  rcases (by omega : s < 0 ∨ (0 ≤ s ∧ (l.length : Int) < s) ∨ (0 ≤ s ∧ s ≤ l.length ∧ 100000 < l.length)) with h | ⟨h, h'⟩ | ⟨h, h', h''⟩
  all_goals
    clear hb
    go_enter Tryd.func48, Tryd.ntmps48
    go_wp2
    exact bodyPost_ret (v := .tuple #[.agg #[.slice none 0 0, .int .i64 0], .bool false]) (by simp [results, Tryd.results48, go_sem]) rfl ⟨rfl, by repeat (first | exact Below.refl _ _ | apply below_alloc | apply pw_below_drewN | apply below_drew1)⟩

set_option maxHeartbeats 1000000 in
set_option maxRecDepth 100000 in
theorem sameTape_calls (A : Option Addr) (c : Nat) (A2 : Option Addr) (c2 : Nat) (l : List Int) (s : Int) (w : World) (hr : Kd.C (Kd.int .u8) w A l.length l) (hr2 : Kd.C (Kd.int .u8) w A2 l.length l) :
    Calls Tryd.prog 23 #[.agg #[.slice A l.length c, .int .i64 s], .agg #[.slice A2 l.length c2, .int .i64 s]] w fun e w' => e = .returned (.bool true) ∧ Below w.heap.size w w' := by
  have h1 := Kd.C_string (P := Tryd.prog) (src := 29) (dst := 9) (c := c) Tryd.underlying29 Tryd.underlying5 Tryd.underlying9 (Kd.C_below hr (below_alloc (below_alloc (Below.refl w.heap.size w) (.cells #[.slice A l.length c, .int .i64 s] 37)) (.cells #[.slice A2 l.length c2, .int .i64 s] 37)))
  have h2 := Kd.C_string (P := Tryd.prog) (src := 29) (dst := 9) (c := c2) Tryd.underlying29 Tryd.underlying5 Tryd.underlying9 (Kd.C_below hr2 (below_alloc (below_alloc (Below.refl w.heap.size w) (.cells #[.slice A l.length c, .int .i64 s] 37)) (.cells #[.slice A2 l.length c2, .int .i64 s] 37)))
  go_enter Tryd.func23, Tryd.ntmps23
  go_wp2
  go_ret
  exact ⟨by simp, (by repeat (first | exact Below.refl _ _ | apply below_alloc | apply pw_below_drewN | apply below_drew1 | (refine Below.setCell ?_ (by first | (simp; done) | (simp; omega) | omega) _) ))⟩

end Go.Proofs.YtdffojjimoilgaaDoor.H
