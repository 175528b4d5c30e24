/- The walks that the law JudgeEnds reaches. -/
import Derived.Test.YtioemcfadniokaaTapeB
import Derived.Test.YtioemcfadniokaaKinds
import Derived.Deep.QuietTactic
import Derived.BigQuiet
namespace Go.Proofs.Ytioemcfadniokaa.H
open Go.RowKit Go.Proofs.YtioemcfadniokaaW.PrintWords Go.Proofs.YtioemcfadniokaaW.PrintLast Go.Proofs.YtioemcfadniokaaW.PrintMore Go.Proofs.Ytioemcfadniokaa.U
set_option linter.unusedVariables false
set_option linter.unusedSimpArgs false
attribute [local go_sem high] eqAAction
set_option maxHeartbeats 1000000 in
set_option maxRecDepth 100000 in
theorem cloneActions_calls (A : Option Addr) (c : Nat) (l : List AAction) (w : World) (hr : Kd.C kAAction w A l.length l) (hl : l.length * 32 ≤ 140737488355328) :
    Calls Try.prog 54 #[.slice A l.length c] w fun e w' => ∃ v : Value, e = .returned v ∧ Kd.R kAAction 73 w' w.heap.size (fun _ => True) v l ∧ Below w.heap.size w w' := by
  have hnil := fun (w : World) (a : Option Addr) (n c n' c' : Nat) => Lib.run_eql_slice_nil (P := Try.prog) w _ _ a n c n' c' rowAAction.ht
  cases A with
  | none =>
    obtain ⟨rfl, _⟩ := C_nil _ w rfl hr
    go_enter Try.func54, Try.ntmps54
    go_wp2
    go_ret
    exact ⟨_, rfl, Kd.R_nil _ _ _ _ _, Below.refl _ _⟩
  | some ad =>
    go_enter Try.func54, Try.ntmps54
    go_wp2_with (at_builtin; refine rows_list rowAAction w.heap.size rfl _ _ rfl (.slice (some ⟨w.heap.size, 0, none⟩) 0 0) [] l (some ad) c rfl rfl (R_lit0 _ _ _) (Kd.C_below hr (by repeat (first | exact Below.refl _ _ | apply below_alloc | apply pw_below_drewN | apply below_drew1))) (by simp) (by simpa using hl) ?_; intro v1 w1 hR hb1 hg1)
    go_ret
    exact ⟨_, rfl, hR, ((Below.refl _ _).alloc (Nat.le_refl _) _).trans hb1⟩
set_option maxHeartbeats 1000000 in
set_option maxRecDepth 100000 in
theorem actionsCopy_calls (A : Option Addr) (c : Nat) (l : List AAction) (w : World) (hr : Kd.C kAAction w A l.length l) (hl : l.length * 32 ≤ 140737488355328) :
    Calls Try.prog 55 #[.slice A l.length c] w fun e w' => ∃ v : Value, e = .returned v ∧ Kd.R kAAction 73 w' w.heap.size (fun _ => True) v l ∧ Below w.heap.size w w' := by
  have h63 := hr.2.1
  go_enter Try.func55, Try.ntmps55
  go_wp2
  go_loopw [3, 4] (fun v i wr => ∃ k : Nat, k ≤ l.length ∧ i = .int .i64 k ∧ Kd.R kAAction 73 wr w.heap.size (fun _ => True) v (l.take k) ∧ Below w.heap.size w wr) (fun _ i _ => l.length - (intOf i).toNat)
  case atStart => exact ⟨0, Nat.zero_le _, rfl, Kd.R_nil _ _ _ _ _, Below.refl _ _⟩
  case round =>
    obtain ⟨k, hk, rfl, hR, hB⟩ := hrel
    by_cases hlt : k < l.length
    · obtain ⟨ad, e1, hx0, hxj⟩ := flat_at (Kd.C_below hr hB) k hlt
      subst e1
      have q0 := hx0 _ rfl; have q1 := hxj 1 _ (by decide) rfl; have q2 := hxj 2 _ (by decide) rfl
      clear hx0 hxj
      have hts := Lib.hid (List.take_succ_eq_append_getElem hlt)
      have hlen : (l.take k).length ≤ k := List.length_take_le _ _
      go_wp2_with (at_builtin; refine snoc_list rowAAction w.heap.size rfl _ _ rfl u3 (l.take k) l[k] [.int .i64 l[k].kind, .string l[k].text, .int .i64 l[k].flags] rfl rfl rfl hR hB.size (by omega) ?_; intro v1 w1 hR1 hb1 hg1)
      go_roundw
      case rel => exact ⟨k + 1, by omega, by go_num, by rw [hts.out]; exact hR1, hB.trans hb1⟩
      case measure => simp [intOf]; omega
    · obtain rfl : k = l.length := by omega
      rw [List.take_length] at hR
      go_wp2
      go_ret
      exact ⟨_, rfl, hR, hB⟩
set_option maxHeartbeats 1000000 in
set_option maxRecDepth 100000 in
theorem sameActions_calls (A : Option Addr) (c : Nat) (A2 : Option Addr) (c2 : Nat) (l : List AAction) (w : World) (hr : Kd.C kAAction w A l.length l) (hr2 : Kd.C kAAction w A2 l.length l) :
    Calls Try.prog 25 #[.slice A l.length c, .slice A2 l.length c2] w fun e w' => e = .returned (.bool true) ∧ Below w.heap.size w w' := by
  have h63 := hr.2.1
  go_enter Try.func25, Try.ntmps25
  go_wp2
  go_loopw [5] (fun i wr => ∃ k : Nat, k ≤ l.length ∧ i = .int .i64 k ∧ ∃ q, wr = w.drewN q) (fun i _ => l.length - (intOf i).toNat)
  case atStart => exact ⟨0, Nat.zero_le _, rfl, 0, rfl⟩
  case round =>
    obtain ⟨k, hk, rfl, q, rfl⟩ := hrel
    by_cases hlt : k < l.length
    · obtain ⟨ad, e1, hx0, hxj⟩ := flat_at hr k hlt
      obtain ⟨ad2, e2, hy0, hyj⟩ := flat_at hr2 k hlt
      subst e1 e2
      have q0 := hx0 _ rfl; have q1 := hxj 1 _ (by decide) rfl; have q2 := hxj 2 _ (by decide) rfl
      have r0 := hy0 _ rfl; have r1 := hyj 1 _ (by decide) rfl; have r2 := hyj 2 _ (by decide) rfl
      clear hx0 hxj hy0 hyj
      have i0 : (0 : Int) ≤ (k : Int) := by omega
      have i1 : (k : Int) < (l.length : Int) := by omega
      go_wp2
      go_quiet (fail)
      go_wp2
      go_roundw
      case rel => exact ⟨k + 1, by omega, by go_num, _, rfl⟩
      case measure => simp [intOf]; omega
    · obtain rfl : k = l.length := by omega
      go_wp2
      go_ret
      exact ⟨rfl, by first | exact Below.refl _ _ | exact pw_below_drewN (Below.refl _ _) _⟩

def endedActs (l : List AAction) (flags : Int) (asked : Bool) (fault : Int) : List AAction :=
  if fault = 0 then if asked then l else [⟨3, ⟨#[]⟩, flags⟩] else [⟨3, ⟨#[]⟩, 0⟩]

set_option maxHeartbeats 1000000 in
set_option maxRecDepth 100000 in
theorem courses_calls (A : Option Addr) (c : Nat) (l : List AAction) (f : Int) (a : Bool) (u : Int) (w : World) (hr : Kd.C kAAction w A l.length l) (hl : l.length * 32 ≤ 140737488355328) :
    Calls Try.prog 23 #[.agg #[.slice A l.length c, .int .i64 f, .bool a, .int .i64 u]] w fun e w' => ∃ v : Value, e = .returned (.agg #[v, .int .i64 f, .bool a, .int .i64 u]) ∧ Kd.R kAAction 73 w' w.heap.size (fun _ => True) v l ∧ Below w.heap.size w w' := by
  go_enter Try.func23, Try.ntmps23
  go_wp2_with (at_builtin; refine clone_list rowAAction rfl _ _ rfl l A c rfl rfl (Kd.C_below hr (by repeat (first | exact Below.refl _ _ | apply below_alloc | apply pw_below_drewN | apply below_drew1))) (by omega) ?_; intro A1 c1 w1 hR hb1; obtain ⟨hc, hf⟩ := bcell hb1; have hz : w.heap.size + 1 < w1.heap.size := (by have := hb1.size; simp at this; omega); have : w1.cell? ⟨w.heap.size, 0, none⟩ = some (.slice A l.length c) := (by rw [hc _ _ (by first | (simp; done) | (simp; omega))]; first | (simp; done) | (simp [*]; done) | assumption); have : w1.frozen? ⟨w.heap.size, 0, none⟩ = false := (by rw [hf _ _ (by first | (simp; done) | (simp; omega))]; first | (simp; done) | (simp [*]; done) | assumption); have : w1.cell? ⟨w.heap.size, 1, none⟩ = some (.int .i64 f) := (by rw [hc _ _ (by first | (simp; done) | (simp; omega))]; first | (simp; done) | (simp [*]; done) | assumption); have : w1.frozen? ⟨w.heap.size, 1, none⟩ = false := (by rw [hf _ _ (by first | (simp; done) | (simp; omega))]; first | (simp; done) | (simp [*]; done) | assumption); have : w1.cell? ⟨w.heap.size, 2, none⟩ = some (.bool a) := (by rw [hc _ _ (by first | (simp; done) | (simp; omega))]; first | (simp; done) | (simp [*]; done) | assumption); have : w1.frozen? ⟨w.heap.size, 2, none⟩ = false := (by rw [hf _ _ (by first | (simp; done) | (simp; omega))]; first | (simp; done) | (simp [*]; done) | assumption); have : w1.cell? ⟨w.heap.size, 3, none⟩ = some (.int .i64 u) := (by rw [hc _ _ (by first | (simp; done) | (simp; omega))]; first | (simp; done) | (simp [*]; done) | assumption); have : w1.frozen? ⟨w.heap.size, 3, none⟩ = false := (by rw [hf _ _ (by first | (simp; done) | (simp; omega))]; first | (simp; done) | (simp [*]; done) | assumption); have : w1.cell? ⟨w.heap.size + 1, 0, none⟩ = some (.slice none 0 0) := (by rw [hc _ _ (by first | (simp; done) | (simp; omega))]; first | (simp; done) | (simp [*]; done) | assumption); have : w1.frozen? ⟨w.heap.size + 1, 0, none⟩ = false := (by rw [hf _ _ (by first | (simp; done) | (simp; omega))]; first | (simp; done) | (simp [*]; done) | assumption); have : w1.cell? ⟨w.heap.size + 1, 1, none⟩ = some (.int .i64 0) := (by rw [hc _ _ (by first | (simp; done) | (simp; omega))]; first | (simp; done) | (simp [*]; done) | assumption); have : w1.frozen? ⟨w.heap.size + 1, 1, none⟩ = false := (by rw [hf _ _ (by first | (simp; done) | (simp; omega))]; first | (simp; done) | (simp [*]; done) | assumption); have : w1.cell? ⟨w.heap.size + 1, 2, none⟩ = some (.bool false) := (by rw [hc _ _ (by first | (simp; done) | (simp; omega))]; first | (simp; done) | (simp [*]; done) | assumption); have : w1.frozen? ⟨w.heap.size + 1, 2, none⟩ = false := (by rw [hf _ _ (by first | (simp; done) | (simp; omega))]; first | (simp; done) | (simp [*]; done) | assumption); have : w1.cell? ⟨w.heap.size + 1, 3, none⟩ = some (.int .i64 0) := (by rw [hc _ _ (by first | (simp; done) | (simp; omega))]; first | (simp; done) | (simp [*]; done) | assumption); have : w1.frozen? ⟨w.heap.size + 1, 3, none⟩ = false := (by rw [hf _ _ (by first | (simp; done) | (simp; omega))]; first | (simp; done) | (simp [*]; done) | assumption); clear hc hf)
  go_wp2
  refine bodyPost_ret (v := .agg #[.slice A1 l.length c1, .int .i64 f, .bool a, .int .i64 u]) (by simp [results, Try.results23, go_sem, *]) rfl ⟨_, rfl, ?_, ?_⟩
  · exact Kd.R_lower (R_elder (R_elder (R_elder (R_elder (R_elder hR (by simp; omega) _) (by simp) _) (by simp) _) (by simp) _) (by simp) _) (by simp; omega)
  · exact (by repeat (first | exact Below.refl _ _ | apply below_alloc | apply pw_below_drewN | apply below_drew1 | (refine Below.setCell ?_ (by first | (simp; done) | (simp; omega) | omega) _) | (refine below_then ?_ (by first | (simp; done) | (simp; omega) | omega) hb1)))
set_option maxHeartbeats 1000000 in
set_option maxRecDepth 100000 in
theorem checkCourse_calls (A : Option Addr) (c : Nat) (l : List AAction) (f : Int) (a : Bool) (u : Int) (w : World) (h63 : l.length ≤ 9223372036854775807) :
    Calls Try.prog 38 #[.agg #[.slice A l.length c, .int .i64 f, .bool a, .int .i64 u]] w fun e w' => e = .returned (.int .i64 (if l.length ≤ 6 ∧ 0 ≤ f ∧ f < 32 then 0 else 11)) ∧ Below w.heap.size w w' := by
  rcases (by omega : (6 < l.length) ∨ (l.length ≤ 6 ∧ f < 0) ∨ (l.length ≤ 6 ∧ 0 ≤ f ∧ 32 ≤ f) ∨ (l.length ≤ 6 ∧ 0 ≤ f ∧ f < 32)) with h | ⟨h, h1⟩ | ⟨h, h1, h2⟩ | ⟨h, h1, h2⟩
  all_goals
    go_enter Try.func38, Try.ntmps38
    go_wp2
    go_ret
    exact ⟨(by first | rfl | (simp; done) | (simp [*]; done) | (rw [if_pos (by omega)]; first | rfl | (simp; done)) | (rw [if_neg (by omega)]; first | rfl | (simp; done)) | (simp; omega)), (by repeat (first | exact Below.refl _ _ | apply below_alloc | apply pw_below_drewN | apply below_drew1 | (refine Below.setCell ?_ (by first | (simp; done) | (simp; omega) | omega) _) ))⟩
set_option maxHeartbeats 1000000 in
set_option maxRecDepth 100000 in
theorem courseFault_calls (A : Option Addr) (c : Nat) (l : List AAction) (f : Int) (a : Bool) (u : Int) (w : World) (h63 : l.length ≤ 9223372036854775807) :
    Calls Try.prog 40 #[.agg #[.slice A l.length c, .int .i64 f, .bool a, .int .i64 u]] w fun e w' => e = .returned (.int .i64 (if l.length ≤ 6 ∧ 0 ≤ f ∧ f < 32 then 0 else 11)) ∧ Below w.heap.size w w' := by
  rcases (by omega : (6 < l.length) ∨ (l.length ≤ 6 ∧ f < 0) ∨ (l.length ≤ 6 ∧ 0 ≤ f ∧ 32 ≤ f) ∨ (l.length ≤ 6 ∧ 0 ≤ f ∧ f < 32)) with h | ⟨h, h1⟩ | ⟨h, h1, h2⟩ | ⟨h, h1, h2⟩
  all_goals
    go_enter Try.func40, Try.ntmps40
    go_wp2_with (go_at_call 32; first | (refine (in_yes _ _ _ _ (by omega) (by omega)).mono ?_; rintro e w' ⟨rfl, rfl⟩) | (refine (in_no _ _ _ _ (by omega)).mono ?_; rintro e w' ⟨rfl, rfl⟩))
    go_ret
    exact ⟨(by first | rfl | (simp; done) | (simp [*]; done) | (rw [if_pos (by omega)]; first | rfl | (simp; done)) | (rw [if_neg (by omega)]; first | rfl | (simp; done)) | (simp; omega)), (by repeat (first | exact Below.refl _ _ | apply below_alloc | apply pw_below_drewN | apply below_drew1 | (refine Below.setCell ?_ (by first | (simp; done) | (simp; omega) | omega) _) ))⟩
set_option maxHeartbeats 1000000 in
set_option maxRecDepth 100000 in
theorem courseEnd_calls (b : Nat) (A : Option Addr) (c : Nat) (l : List AAction) (f : Int) (a : Bool) (u : Int) (w : World) (hr : Kd.C kAAction w A l.length l) (hl : l.length * 32 ≤ 140737488355328)
    (c0 : w.cell? ⟨b, 0, none⟩ = some (.slice A l.length c)) (c1 : w.cell? ⟨b, 1, none⟩ = some (.int .i64 f)) (c2 : w.cell? ⟨b, 2, none⟩ = some (.bool a)) (c3 : w.cell? ⟨b, 3, none⟩ = some (.int .i64 u)) :
    Calls Try.prog 39 #[.pointer (some ⟨b, 0, none⟩)] w fun e w' => ∃ v : Value, e = .returned v ∧ Kd.R kAAction 73 w' w.heap.size (fun _ => True) v (endedActs l f a u) ∧ Below w.heap.size w w' := by
  by_cases hu : u = 0
  · subst hu
    cases a with
    | true =>
      go_enter Try.func39, Try.ntmps39
      go_wp2_with (go_at_call 54; refine (cloneActions_calls A c l _ (Kd.C_below hr (by repeat (first | exact Below.refl _ _ | apply below_alloc | apply pw_below_drewN | apply below_drew1 | (refine Below.setCell ?_ (by first | (simp; done) | (simp; omega) | omega) _) ))) hl).mono ?_; rintro e w1 ⟨v1, rfl, hR, hb1⟩)
      go_ret
      exact ⟨_, rfl, by simpa [endedActs] using hR, (by repeat (first | exact Below.refl _ _ | apply below_alloc | apply pw_below_drewN | apply below_drew1 | (refine Below.setCell ?_ (by first | (simp; done) | (simp; omega) | omega) _) | (refine below_then ?_ (by first | (simp; done) | (simp; omega) | omega) hb1)))⟩
    | false =>
      go_enter Try.func39, Try.ntmps39
      go_wp2
      go_ret
      exact ⟨_, rfl, by simpa [endedActs, AAction.enc] using R_lit1 kAAction flat_kd 73 w ⟨3, ⟨#[]⟩, f⟩ _ rfl, (by repeat (first | exact Below.refl _ _ | apply below_alloc | apply pw_below_drewN | apply below_drew1 | (refine Below.setCell ?_ (by first | (simp; done) | (simp; omega) | omega) _) ))⟩
  · have hu0 : (u != 0) = true := by simpa using hu
    have hu1 : (u == 0) = false := by simpa using hu
    go_enter Try.func39, Try.ntmps39
    go_wp2
    go_ret
    exact ⟨_, rfl, by simpa [endedActs, hu, AAction.enc] using R_lit1 kAAction flat_kd 73 w ⟨3, ⟨#[]⟩, 0⟩ _ rfl, (by repeat (first | exact Below.refl _ _ | apply below_alloc | apply pw_below_drewN | apply below_drew1 | (refine Below.setCell ?_ (by first | (simp; done) | (simp; omega) | omega) _) ))⟩
set_option maxHeartbeats 1000000 in
set_option maxRecDepth 100000 in
theorem refended_calls (A : Option Addr) (c : Nat) (l : List AAction) (f : Int) (a : Bool) (u : Int) (w : World) (hr : Kd.C kAAction w A l.length l) (hl : l.length * 32 ≤ 140737488355328) :
    Calls Try.prog 41 #[.agg #[.slice A l.length c, .int .i64 f, .bool a, .int .i64 u]] w fun e w' => ∃ v : Value, e = .returned v ∧ Kd.R kAAction 73 w' w.heap.size (fun _ => True) v (endedActs l f a u) ∧ Below w.heap.size w w' := by
  by_cases hu : u = 0
  · subst hu
    cases a with
    | true =>
      go_enter Try.func41, Try.ntmps41
      go_wp2_with (go_at_call 55; refine (actionsCopy_calls A c l _ (Kd.C_below hr (by repeat (first | exact Below.refl _ _ | apply below_alloc | apply pw_below_drewN | apply below_drew1 | (refine Below.setCell ?_ (by first | (simp; done) | (simp; omega) | omega) _) ))) hl).mono ?_; rintro e w1 ⟨v1, rfl, hR, hb1⟩)
      go_ret
      exact ⟨_, rfl, Kd.R_lower (by simpa [endedActs] using hR) (by simp), (by repeat (first | exact Below.refl _ _ | apply below_alloc | apply pw_below_drewN | apply below_drew1 | (refine Below.setCell ?_ (by first | (simp; done) | (simp; omega) | omega) _) | (refine below_then ?_ (by first | (simp; done) | (simp; omega) | omega) hb1)))⟩
    | false =>
      go_enter Try.func41, Try.ntmps41
      go_wp2
      go_ret
      exact ⟨_, rfl, Kd.R_lower (by simpa [endedActs, AAction.enc] using R_lit1 kAAction flat_kd 73 (w.alloc _) ⟨3, ⟨#[]⟩, f⟩ _ rfl) (by simp), (by repeat (first | exact Below.refl _ _ | apply below_alloc | apply pw_below_drewN | apply below_drew1 | (refine Below.setCell ?_ (by first | (simp; done) | (simp; omega) | omega) _) ))⟩
  · have hu0 : (u != 0) = true := by simpa using hu
    have hu1 : (u == 0) = false := by simpa using hu
    go_enter Try.func41, Try.ntmps41
    go_wp2
    go_ret
    exact ⟨_, rfl, Kd.R_lower (by simpa [endedActs, hu, AAction.enc] using R_lit1 kAAction flat_kd 73 (w.alloc _) ⟨3, ⟨#[]⟩, 0⟩ _ rfl) (by simp), (by repeat (first | exact Below.refl _ _ | apply below_alloc | apply pw_below_drewN | apply below_drew1 | (refine Below.setCell ?_ (by first | (simp; done) | (simp; omega) | omega) _) ))⟩
end Go.Proofs.Ytioemcfadniokaa.H
