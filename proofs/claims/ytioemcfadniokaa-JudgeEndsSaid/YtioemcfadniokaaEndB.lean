/- The law JudgeEnds, walked. -/
import Derived.Test.YtioemcfadniokaaEndA
namespace Go.Proofs.Ytioemcfadniokaa.H
open Go.RowKit Go.Proofs.YtioemcfadniokaaW.PrintWords Go.Proofs.YtioemcfadniokaaW.PrintLast Go.Proofs.YtioemcfadniokaaW.PrintMore Go.Proofs.Ytioemcfadniokaa.U
set_option linter.unusedVariables false
set_option linter.unusedSimpArgs false
def endErr (l : List AAction) (f : Int) : Int := if l.length ≤ 6 ∧ 0 ≤ f ∧ f < 32 then 0 else 11
def endRes (l : List AAction) (f : Int) (a : Bool) (u : Int) : List AAction := if l.length ≤ 6 ∧ 0 ≤ f ∧ f < 32 then endedActs l f a u else []
set_option maxHeartbeats 1000000 in
set_option maxRecDepth 100000 in
theorem judgeEnd_calls (A : Option Addr) (c : Nat) (l : List AAction) (f : Int) (a : Bool) (u : Int) (w : World) (hr : Kd.C kAAction w A l.length l) (hl : l.length * 32 ≤ 140737488355328) :
    Calls Try.prog 22 #[.agg #[.slice A l.length c, .int .i64 f, .bool a, .int .i64 u]] w fun e w' => ∃ v : Value, e = .returned (.tuple #[v, .int .i64 (endErr l f)]) ∧ Kd.R kAAction 73 w' w.heap.size (fun _ => True) v (endRes l f a u) ∧ Below w.heap.size w w' := by
  have h63 := hr.2.1
  by_cases hm : l.length ≤ 6 ∧ 0 ≤ f ∧ f < 32
  · rw [endErr, endRes, if_pos hm, if_pos hm]
    go_enter Try.func22, Try.ntmps22
    go_wp2_with fail
    refine (checkCourse_calls A c l f a u _ h63).mono ?_
    rintro e w1 ⟨rfl, hb1⟩
    rw [if_pos hm]
    obtain ⟨hc_w1, hf_w1⟩ := bcell hb1
    have s_ := hb1.size
    (try simp at s_)
    (first | (have z_w_w1 : w.heap.size < w1.heap.size := by omega) | skip)
    have y_w_w1 : w.heap.size ≤ w1.heap.size := by omega
    clear s_
    go_wp2_with fail
    refine (courseEnd_calls _ A c l f a u _ (Kd.C_below hr (by repeat (first | exact Below.refl _ _ | apply below_alloc | apply pw_below_drewN | apply below_drew1 | (refine Below.setCell ?_ (by first | (simp; done) | (simp; omega) | omega) _) | (refine below_then ?_ (by first | (simp; done) | (simp; omega) | omega) hb1)))) hl (by simp) (by simp) (by simp) (by simp)).mono ?_
    rintro e w2 ⟨v2, rfl, hR, hb2⟩
    obtain ⟨hc_w2, hf_w2⟩ := bcell hb2
    have s_ := hb2.size
    (try simp at s_)
    (first | (have z_w_w2 : w.heap.size < w2.heap.size := by omega) | skip)
    have y_w_w2 : w.heap.size ≤ w2.heap.size := by omega
    (first | (have z_w1_w2 : w1.heap.size < w2.heap.size := by omega) | skip)
    have y_w1_w2 : w1.heap.size ≤ w2.heap.size := by omega
    clear s_
    go_wp2_with fail
    go_ret2
    exact ⟨_, rfl, Kd.R_lower hR (by first | omega | (simp; omega)), (by repeat (first | exact Below.refl _ _ | apply below_alloc | apply pw_below_drewN | apply below_drew1 | (refine Below.setCell ?_ (by first | (simp; done) | (simp; omega) | omega) _) | (refine below_then ?_ (by first | (simp; done) | (simp; omega) | omega) hb2) | (refine below_then ?_ (by first | (simp; done) | (simp; omega) | omega) hb1)))⟩
  · rw [endErr, endRes, if_neg hm, if_neg hm]
    go_enter Try.func22, Try.ntmps22
    go_wp2_with fail
    refine (checkCourse_calls A c l f a u _ h63).mono ?_
    rintro e w1 ⟨rfl, hb1⟩
    rw [if_neg hm]
    obtain ⟨hc_w1, hf_w1⟩ := bcell hb1
    have s_ := hb1.size
    (try simp at s_)
    (first | (have z_w_w1 : w.heap.size < w1.heap.size := by omega) | skip)
    have y_w_w1 : w.heap.size ≤ w1.heap.size := by omega
    clear s_
    go_wp2_with fail
    go_ret2
    exact ⟨_, rfl, Kd.R_nil _ _ _ _ _, (by repeat (first | exact Below.refl _ _ | apply below_alloc | apply pw_below_drewN | apply below_drew1 | (refine Below.setCell ?_ (by first | (simp; done) | (simp; omega) | omega) _) | (refine below_then ?_ (by first | (simp; done) | (simp; omega) | omega) hb1)))⟩
set_option maxHeartbeats 1000000 in
set_option maxRecDepth 100000 in
theorem refEnded_calls (A : Option Addr) (c : Nat) (l : List AAction) (f : Int) (a : Bool) (u : Int) (w : World) (hr : Kd.C kAAction w A l.length l) (hl : l.length * 32 ≤ 140737488355328) :
    Calls Try.prog 24 #[.agg #[.slice A l.length c, .int .i64 f, .bool a, .int .i64 u]] w fun e w' => ∃ v : Value, e = .returned (.tuple #[v, .int .i64 (endErr l f)]) ∧ Kd.R kAAction 73 w' w.heap.size (fun _ => True) v (endRes l f a u) ∧ Below w.heap.size w w' := by
  have h63 := hr.2.1
  by_cases hm : l.length ≤ 6 ∧ 0 ≤ f ∧ f < 32
  · rw [endErr, endRes, if_pos hm, if_pos hm]
    go_enter Try.func24, Try.ntmps24
    go_wp2_with fail
    refine (courseFault_calls A c l f a u _ h63).mono ?_
    rintro e w1 ⟨rfl, hb1⟩
    rw [if_pos hm]
    obtain ⟨hc_w1, hf_w1⟩ := bcell hb1
    have s_ := hb1.size
    (try simp at s_)
    (first | (have z_w_w1 : w.heap.size < w1.heap.size := by omega) | skip)
    have y_w_w1 : w.heap.size ≤ w1.heap.size := by omega
    clear s_
    go_wp2_with fail
    refine (refended_calls A c l f a u _ (Kd.C_below hr (by repeat (first | exact Below.refl _ _ | apply below_alloc | apply pw_below_drewN | apply below_drew1 | (refine Below.setCell ?_ (by first | (simp; done) | (simp; omega) | omega) _) | (refine below_then ?_ (by first | (simp; done) | (simp; omega) | omega) hb1)))) hl).mono ?_
    rintro e w2 ⟨v2, rfl, hR, hb2⟩
    obtain ⟨hc_w2, hf_w2⟩ := bcell hb2
    have s_ := hb2.size
    (try simp at s_)
    (first | (have z_w_w2 : w.heap.size < w2.heap.size := by omega) | skip)
    have y_w_w2 : w.heap.size ≤ w2.heap.size := by omega
    (first | (have z_w1_w2 : w1.heap.size < w2.heap.size := by omega) | skip)
    have y_w1_w2 : w1.heap.size ≤ w2.heap.size := by omega
    clear s_
    go_wp2_with fail
    go_ret2
    exact ⟨_, rfl, Kd.R_lower hR (by first | omega | (simp; omega)), (by repeat (first | exact Below.refl _ _ | apply below_alloc | apply pw_below_drewN | apply below_drew1 | (refine Below.setCell ?_ (by first | (simp; done) | (simp; omega) | omega) _) | (refine below_then ?_ (by first | (simp; done) | (simp; omega) | omega) hb2) | (refine below_then ?_ (by first | (simp; done) | (simp; omega) | omega) hb1)))⟩
  · rw [endErr, endRes, if_neg hm, if_neg hm]
    go_enter Try.func24, Try.ntmps24
    go_wp2_with fail
    refine (courseFault_calls A c l f a u _ h63).mono ?_
    rintro e w1 ⟨rfl, hb1⟩
    rw [if_neg hm]
    obtain ⟨hc_w1, hf_w1⟩ := bcell hb1
    have s_ := hb1.size
    (try simp at s_)
    (first | (have z_w_w1 : w.heap.size < w1.heap.size := by omega) | skip)
    have y_w_w1 : w.heap.size ≤ w1.heap.size := by omega
    clear s_
    go_wp2_with fail
    go_ret2
    exact ⟨_, rfl, Kd.R_nil _ _ _ _ _, (by repeat (first | exact Below.refl _ _ | apply below_alloc | apply pw_below_drewN | apply below_drew1 | (refine Below.setCell ?_ (by first | (simp; done) | (simp; omega) | omega) _) | (refine below_then ?_ (by first | (simp; done) | (simp; omega) | omega) hb1)))⟩
set_option maxHeartbeats 1000000 in
set_option maxRecDepth 100000 in
theorem judgeEnds_walk (A : Option Addr) (c : Nat) (l : List AAction) (f : Int) (a : Bool) (u : Int) (w : World) (hr : Kd.C kAAction w A l.length l) (hl : l.length * 32 ≤ 140737488351232) :
    Calls Try.prog 8 #[.agg #[.slice A l.length c, .int .i64 f, .bool a, .int .i64 u]] w fun e w' => e = .returned (.bool true) ∧ Below w.heap.size w w' := by
  go_enter Try.func8, Try.ntmps8
  go_wp2_with fail
  refine (courses_calls A c l f a u _ (Kd.C_below hr (by repeat (first | exact Below.refl _ _ | apply below_alloc | apply pw_below_drewN | apply below_drew1 | (refine Below.setCell ?_ (by first | (simp; done) | (simp; omega) | omega) _) ))) (by omega)).mono ?_
  rintro e w1 ⟨v1, rfl, hR1, hb1⟩
  obtain ⟨A1, c1, rfl, hl1, hr1⟩ := C_of hR1
  obtain ⟨hc_w1, hf_w1⟩ := bcell hb1
  have s_ := hb1.size
  (try simp at s_)
  (first | (have z_w_w1 : w.heap.size < w1.heap.size := by omega) | skip)
  have y_w_w1 : w.heap.size ≤ w1.heap.size := by omega
  clear s_
  go_wp2_with fail
  refine (judgeEnd_calls A1 c1 l f a u _ hr1 (by omega)).mono ?_
  rintro e w2 ⟨v2, rfl, hR2, hb2⟩
  obtain ⟨A2, c2, rfl, hl2, hr2⟩ := C_of hR2
  obtain ⟨hc_w2, hf_w2⟩ := bcell hb2
  have s_ := hb2.size
  (try simp at s_)
  (first | (have z_w_w2 : w.heap.size < w2.heap.size := by omega) | skip)
  have y_w_w2 : w.heap.size ≤ w2.heap.size := by omega
  (first | (have z_w1_w2 : w1.heap.size < w2.heap.size := by omega) | skip)
  have y_w1_w2 : w1.heap.size ≤ w2.heap.size := by omega
  clear s_
  go_wp2_with fail
  refine (refEnded_calls A c l f a u _ (Kd.C_below hr (by repeat (first | exact Below.refl _ _ | apply below_alloc | apply pw_below_drewN | apply below_drew1 | (refine Below.setCell ?_ (by first | (simp; done) | (simp; omega) | omega) _) | (refine below_then ?_ (by first | (simp; done) | (simp; omega) | omega) hb2) | (refine below_then ?_ (by first | (simp; done) | (simp; omega) | omega) hb1)))) (by omega)).mono ?_
  rintro e w3 ⟨v3, rfl, hR3, hb3⟩
  obtain ⟨A3, c3, rfl, hl3, hr3⟩ := C_of hR3
  obtain ⟨hc_w3, hf_w3⟩ := bcell hb3
  have s_ := hb3.size
  (try simp at s_)
  (first | (have z_w_w3 : w.heap.size < w3.heap.size := by omega) | skip)
  have y_w_w3 : w.heap.size ≤ w3.heap.size := by omega
  (first | (have z_w1_w3 : w1.heap.size < w3.heap.size := by omega) | skip)
  have y_w1_w3 : w1.heap.size ≤ w3.heap.size := by omega
  (first | (have z_w2_w3 : w2.heap.size < w3.heap.size := by omega) | skip)
  have y_w2_w3 : w2.heap.size ≤ w3.heap.size := by omega
  clear s_
  go_wp2_with fail
  refine (sameActions_calls A2 c2 A3 c3 _ _ (Kd.C_below hr2 (by repeat (first | exact Below.refl _ _ | apply below_alloc | apply pw_below_drewN | apply below_drew1 | (refine Below.setCell ?_ (by first | (simp; done) | (simp; omega) | omega) _) | (refine below_then ?_ (by first | (simp; done) | (simp; omega) | omega) hb3)))) hr3).mono ?_
  rintro e w4 ⟨rfl, hb4⟩
  go_wp2_with fail
  go_ret
  exact ⟨(by first | rfl | (simp; done) | (simp [*]; done) | (rw [if_pos (by omega)]; first | rfl | (simp; done)) | (rw [if_neg (by omega)]; first | rfl | (simp; done)) | (simp; omega)), (by repeat (first | exact Below.refl _ _ | apply below_alloc | apply pw_below_drewN | apply below_drew1 | (refine Below.setCell ?_ (by first | (simp; done) | (simp; omega) | omega) _) | (refine below_then ?_ (by first | (simp; done) | (simp; omega) | omega) hb4) | (refine below_then ?_ (by first | (simp; done) | (simp; omega) | omega) hb3) | (refine below_then ?_ (by first | (simp; done) | (simp; omega) | omega) hb2) | (refine below_then ?_ (by first | (simp; done) | (simp; omega) | omega) hb1)))⟩
end Go.Proofs.Ytioemcfadniokaa.H
