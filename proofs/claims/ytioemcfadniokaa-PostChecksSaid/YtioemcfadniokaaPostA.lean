/- The law PostChecks, walked. -/
import Derived.Test.YtioemcfadniokaaTapeA
import Derived.Test.YtioemcfadniokaaKinds
import Derived.RegionTactic
import Derived.ChangeAlike
namespace Go.Proofs.Ytioemcfadniokaa.H
open Go.RowKit Go.Proofs.YtioemcfadniokaaW.PrintWords Go.Proofs.YtioemcfadniokaaW.PrintLast Go.Proofs.YtioemcfadniokaaW.PrintMore Go.Proofs.Ytioemcfadniokaa.U
set_option linter.unusedVariables false
set_option linter.unusedSimpArgs false
attribute [local go_sem high] eqAAct eqAEntry
def zA : AEntry := ⟨0, ⟨#[]⟩, 0, 0, ⟨#[]⟩, ⟨#[]⟩⟩
def actErr (a : AAct) : Int :=
  if a.kind < 1 ∨ 5 < a.kind then 2
  else if a.kind = 1 then (if a.conn < 0 ∨ 2 < a.conn then 6 else if 3000 < a.data.size then 1 else if eqbAAct a ⟨1, a.conn, 0, 0, a.data, zA⟩ then 0 else 3)
  else if a.kind = 3 then (if a.keep < 0 ∨ 100000 < a.keep then 6 else if eqbAAct a ⟨3, 0, 0, a.keep, ⟨#[]⟩, zA⟩ then 0 else 3)
  else if a.kind = 5 then (if a.user < 0 ∨ 2 < a.user then 6 else if eqbAAct a ⟨5, 0, a.user, 0, ⟨#[]⟩, a.entry⟩ then 0 else 3)
  else if eqbAAct a ⟨a.kind, 0, 0, 0, ⟨#[]⟩, zA⟩ then 0 else 3
theorem act_eqb (k c u p : Int) (d : ByteArray) (x : AEntry) (k2 c2 u2 p2 : Int) (d2 : ByteArray) (x2 : AEntry) : eqbAAct ⟨k, c, u, p, d, x⟩ ⟨k2, c2, u2, p2, d2, x2⟩ = (k == k2 && (c == c2 && (u == u2 && (p == p2 && (d.toList == d2.toList && eqbAEntry x x2))))) := rfl
set_option maxHeartbeats 1000000 in
set_option maxRecDepth 100000 in
theorem postCheck_calls (a : AAct) (w : World) (hs : a.data.size ≤ 140737488351232) :
    Calls Try.prog 26 #[.agg a.enc.toArray] w fun e w' => e = .returned (.int .i64 (actErr a)) ∧ Below w.heap.size w w' := by
  obtain ⟨k, c, u, p, d, x0, x1, x2, x3, x4, x5⟩ := a
  simp only [AAct.enc]
  dsimp only at hs
  rcases (by omega : k < 1 ∨ 5 < k ∨ (k = 1 ∧ c < 0) ∨ (k = 1 ∧ 2 < c) ∨ (k = 1 ∧ 0 ≤ c ∧ c ≤ 2 ∧ 3000 < d.size) ∨ (k = 1 ∧ 0 ≤ c ∧ c ≤ 2 ∧ d.size ≤ 3000) ∨ k = 2 ∨ (k = 3 ∧ p < 0) ∨ (k = 3 ∧ 100000 < p) ∨ (k = 3 ∧ 0 ≤ p ∧ p ≤ 100000) ∨ k = 4 ∨ (k = 5 ∧ u < 0) ∨ (k = 5 ∧ 2 < u) ∨ (k = 5 ∧ 0 ≤ u ∧ u ≤ 2)) with
    h | h | ⟨rfl, h⟩ | ⟨rfl, h⟩ | ⟨rfl, h, h2, h3⟩ | ⟨rfl, h, h2, h3⟩ | rfl | ⟨rfl, h⟩ | ⟨rfl, h⟩ | ⟨rfl, h, h2⟩ | rfl | ⟨rfl, h⟩ | ⟨rfl, h⟩ | ⟨rfl, h, h2⟩
  · go_enter Try.func26, Try.ntmps26
    go_wp2
    all_goals (go_ret; exact ⟨by first | (simp [actErr, zA, *]; done) | (simp [actErr, zA, *]; omega) | (simp [actErr, zA]; clear hs; grind) | (simp [actErr, act_eqb, zA, eqbAEntry_self, *]; done) | (simp [actErr, act_eqb, zA, eqbAEntry_self]; clear hs; grind), (by repeat (first | exact Below.refl _ _ | apply below_alloc | apply pw_below_drewN | apply below_drew1 | (refine Below.setCell ?_ (by first | (simp; done) | (simp; omega) | omega) _) ))⟩)
  · go_enter Try.func26, Try.ntmps26
    go_wp2
    all_goals (go_ret; exact ⟨by first | (simp [actErr, zA, *]; done) | (simp [actErr, zA, *]; omega) | (simp [actErr, zA]; clear hs; grind) | (simp [actErr, act_eqb, zA, eqbAEntry_self, *]; done) | (simp [actErr, act_eqb, zA, eqbAEntry_self]; clear hs; grind), (by repeat (first | exact Below.refl _ _ | apply below_alloc | apply pw_below_drewN | apply below_drew1 | (refine Below.setCell ?_ (by first | (simp; done) | (simp; omega) | omega) _) ))⟩)
  · go_enter Try.func26, Try.ntmps26
    go_wp2
    all_goals (go_ret; exact ⟨by first | (simp [actErr, zA, *]; done) | (simp [actErr, zA, *]; omega) | (simp [actErr, zA]; clear hs; grind) | (simp [actErr, act_eqb, zA, eqbAEntry_self, *]; done) | (simp [actErr, act_eqb, zA, eqbAEntry_self]; clear hs; grind), (by repeat (first | exact Below.refl _ _ | apply below_alloc | apply pw_below_drewN | apply below_drew1 | (refine Below.setCell ?_ (by first | (simp; done) | (simp; omega) | omega) _) ))⟩)
  · go_enter Try.func26, Try.ntmps26
    go_wp2
    all_goals (go_ret; exact ⟨by first | (simp [actErr, zA, *]; done) | (simp [actErr, zA, *]; omega) | (simp [actErr, zA]; clear hs; grind) | (simp [actErr, act_eqb, zA, eqbAEntry_self, *]; done) | (simp [actErr, act_eqb, zA, eqbAEntry_self]; clear hs; grind), (by repeat (first | exact Below.refl _ _ | apply below_alloc | apply pw_below_drewN | apply below_drew1 | (refine Below.setCell ?_ (by first | (simp; done) | (simp; omega) | omega) _) ))⟩)
  · go_enter Try.func26, Try.ntmps26
    go_wp2
    all_goals (go_ret; exact ⟨by first | (simp [actErr, zA, *]; done) | (simp [actErr, zA, *]; omega) | (simp [actErr, zA]; clear hs; grind) | (simp [actErr, act_eqb, zA, eqbAEntry_self, *]; done) | (simp [actErr, act_eqb, zA, eqbAEntry_self]; clear hs; grind), (by repeat (first | exact Below.refl _ _ | apply below_alloc | apply pw_below_drewN | apply below_drew1 | (refine Below.setCell ?_ (by first | (simp; done) | (simp; omega) | omega) _) ))⟩)
  · go_enter Try.func26, Try.ntmps26
    go_wp2
    go_region
    all_goals go_wp2
    all_goals (go_ret; exact ⟨by first | (simp [actErr, zA, *]; done) | (simp [actErr, zA, *]; omega) | (simp [actErr, zA]; clear hs; grind) | (simp [actErr, act_eqb, zA, eqbAEntry_self, *]; done) | (simp [actErr, act_eqb, zA, eqbAEntry_self]; clear hs; grind), (by repeat (first | exact Below.refl _ _ | apply below_alloc | apply pw_below_drewN | apply below_drew1 | (refine Below.setCell ?_ (by first | (simp; done) | (simp; omega) | omega) _) ))⟩)
  · go_enter Try.func26, Try.ntmps26
    go_wp2
    all_goals (go_ret; exact ⟨by first | (simp [actErr, zA, *]; done) | (simp [actErr, zA, *]; omega) | (simp [actErr, zA]; clear hs; grind) | (simp [actErr, act_eqb, zA, eqbAEntry_self, *]; done) | (simp [actErr, act_eqb, zA, eqbAEntry_self]; clear hs; grind), (by repeat (first | exact Below.refl _ _ | apply below_alloc | apply pw_below_drewN | apply below_drew1 | (refine Below.setCell ?_ (by first | (simp; done) | (simp; omega) | omega) _) ))⟩)
  · go_enter Try.func26, Try.ntmps26
    go_wp2
    all_goals (go_ret; exact ⟨by first | (simp [actErr, zA, *]; done) | (simp [actErr, zA, *]; omega) | (simp [actErr, zA]; clear hs; grind) | (simp [actErr, act_eqb, zA, eqbAEntry_self, *]; done) | (simp [actErr, act_eqb, zA, eqbAEntry_self]; clear hs; grind), (by repeat (first | exact Below.refl _ _ | apply below_alloc | apply pw_below_drewN | apply below_drew1 | (refine Below.setCell ?_ (by first | (simp; done) | (simp; omega) | omega) _) ))⟩)
  · go_enter Try.func26, Try.ntmps26
    go_wp2
    all_goals (go_ret; exact ⟨by first | (simp [actErr, zA, *]; done) | (simp [actErr, zA, *]; omega) | (simp [actErr, zA]; clear hs; grind) | (simp [actErr, act_eqb, zA, eqbAEntry_self, *]; done) | (simp [actErr, act_eqb, zA, eqbAEntry_self]; clear hs; grind), (by repeat (first | exact Below.refl _ _ | apply below_alloc | apply pw_below_drewN | apply below_drew1 | (refine Below.setCell ?_ (by first | (simp; done) | (simp; omega) | omega) _) ))⟩)
  · go_enter Try.func26, Try.ntmps26
    go_wp2
    all_goals (go_ret; exact ⟨by first | (simp [actErr, zA, *]; done) | (simp [actErr, zA, *]; omega) | (simp [actErr, zA]; clear hs; grind) | (simp [actErr, act_eqb, zA, eqbAEntry_self, *]; done) | (simp [actErr, act_eqb, zA, eqbAEntry_self]; clear hs; grind), (by repeat (first | exact Below.refl _ _ | apply below_alloc | apply pw_below_drewN | apply below_drew1 | (refine Below.setCell ?_ (by first | (simp; done) | (simp; omega) | omega) _) ))⟩)
  · go_enter Try.func26, Try.ntmps26
    go_wp2
    all_goals (go_ret; exact ⟨by first | (simp [actErr, zA, *]; done) | (simp [actErr, zA, *]; omega) | (simp [actErr, zA]; clear hs; grind) | (simp [actErr, act_eqb, zA, eqbAEntry_self, *]; done) | (simp [actErr, act_eqb, zA, eqbAEntry_self]; clear hs; grind), (by repeat (first | exact Below.refl _ _ | apply below_alloc | apply pw_below_drewN | apply below_drew1 | (refine Below.setCell ?_ (by first | (simp; done) | (simp; omega) | omega) _) ))⟩)
  · go_enter Try.func26, Try.ntmps26
    go_wp2
    all_goals (go_ret; exact ⟨by first | (simp [actErr, zA, *]; done) | (simp [actErr, zA, *]; omega) | (simp [actErr, zA]; clear hs; grind) | (simp [actErr, act_eqb, zA, eqbAEntry_self, *]; done) | (simp [actErr, act_eqb, zA, eqbAEntry_self]; clear hs; grind), (by repeat (first | exact Below.refl _ _ | apply below_alloc | apply pw_below_drewN | apply below_drew1 | (refine Below.setCell ?_ (by first | (simp; done) | (simp; omega) | omega) _) ))⟩)
  · go_enter Try.func26, Try.ntmps26
    go_wp2
    all_goals (go_ret; exact ⟨by first | (simp [actErr, zA, *]; done) | (simp [actErr, zA, *]; omega) | (simp [actErr, zA]; clear hs; grind) | (simp [actErr, act_eqb, zA, eqbAEntry_self, *]; done) | (simp [actErr, act_eqb, zA, eqbAEntry_self]; clear hs; grind), (by repeat (first | exact Below.refl _ _ | apply below_alloc | apply pw_below_drewN | apply below_drew1 | (refine Below.setCell ?_ (by first | (simp; done) | (simp; omega) | omega) _) ))⟩)
  · go_enter Try.func26, Try.ntmps26
    go_wp2
    go_region
    all_goals go_wp2
    all_goals (go_ret; exact ⟨by first | (simp [actErr, zA, *]; done) | (simp [actErr, zA, *]; omega) | (simp [actErr, zA]; clear hs; grind) | (simp [actErr, act_eqb, zA, eqbAEntry_self, *]; done) | (simp [actErr, act_eqb, zA, eqbAEntry_self]; clear hs; grind), (by repeat (first | exact Below.refl _ _ | apply below_alloc | apply pw_below_drewN | apply below_drew1 | (refine Below.setCell ?_ (by first | (simp; done) | (simp; omega) | omega) _) ))⟩)
set_option maxHeartbeats 1000000 in
set_option maxRecDepth 100000 in
theorem actFault_calls (a : AAct) (w : World) (hs : a.data.size ≤ 140737488351232) :
    Calls Try.prog 27 #[.agg a.enc.toArray] w fun e w' => e = .returned (.int .i64 (actErr a)) ∧ Below w.heap.size w w' := by
  obtain ⟨k, c, u, p, d, x0, x1, x2, x3, x4, x5⟩ := a
  simp only [AAct.enc]
  dsimp only at hs
  rcases (by omega : k < 1 ∨ 5 < k ∨ (k = 1 ∧ c < 0) ∨ (k = 1 ∧ 2 < c) ∨ (k = 1 ∧ 0 ≤ c ∧ c ≤ 2 ∧ 3000 < d.size) ∨ (k = 1 ∧ 0 ≤ c ∧ c ≤ 2 ∧ d.size ≤ 3000) ∨ k = 2 ∨ (k = 3 ∧ p < 0) ∨ (k = 3 ∧ 100000 < p) ∨ (k = 3 ∧ 0 ≤ p ∧ p ≤ 100000) ∨ k = 4 ∨ (k = 5 ∧ u < 0) ∨ (k = 5 ∧ 2 < u) ∨ (k = 5 ∧ 0 ≤ u ∧ u ≤ 2)) with
    h | h | ⟨rfl, h⟩ | ⟨rfl, h⟩ | ⟨rfl, h, h2, h3⟩ | ⟨rfl, h, h2, h3⟩ | rfl | ⟨rfl, h⟩ | ⟨rfl, h⟩ | ⟨rfl, h, h2⟩ | rfl | ⟨rfl, h⟩ | ⟨rfl, h⟩ | ⟨rfl, h, h2⟩
  all_goals
    go_enter Try.func27, Try.ntmps27
    go_wp2_with (go_at_call 32; first | (refine (in_yes _ _ _ _ (by omega) (by omega)).mono ?_; rintro e w' ⟨rfl, rfl⟩) | (refine (in_no _ _ _ _ (by omega)).mono ?_; rintro e w' ⟨rfl, rfl⟩))
    all_goals (go_ret; exact ⟨by first | (simp [actErr, zA, *]; done) | (simp [actErr, zA, *]; omega) | (simp [actErr, zA]; clear hs; grind) | (simp [actErr, act_eqb, zA, eqbAEntry_self, *]; done) | (simp [actErr, act_eqb, zA, eqbAEntry_self]; clear hs; grind), (by repeat (first | exact Below.refl _ _ | apply below_alloc | apply pw_below_drewN | apply below_drew1 | (refine Below.setCell ?_ (by first | (simp; done) | (simp; omega) | omega) _) ))⟩)
set_option maxHeartbeats 1000000 in
set_option maxRecDepth 100000 in
theorem postChecks_walk (a : AAct) (w : World) (hs : a.data.size ≤ 140737488351232) :
    Calls Try.prog 9 #[.agg a.enc.toArray] w fun e w' => e = .returned (.bool true) ∧ Below w.heap.size w w' := by
  have h1 := postCheck_calls a
  have h2 := actFault_calls a
  generalize actErr a = r at h1 h2
  obtain ⟨k, c, u, p, d, x0, x1, x2, x3, x4, x5⟩ := a
  simp only [AAct.enc] at h1 h2 ⊢
  have H1 := Lib.hid h1
  have H2 := Lib.hid h2
  clear h1 h2
  go_enter Try.func9, Try.ntmps9
  go_wp2_with fail
  refine (H1.out _ hs).mono ?_
  rintro e w1 ⟨rfl, hb1⟩
  obtain ⟨hc_w1, hf_w1⟩ := bcell hb1
  have s_ := hb1.size
  (try simp at s_)
  (first | (have z_w_w1 : w.heap.size < w1.heap.size := by omega) | skip)
  have y_w_w1 : w.heap.size ≤ w1.heap.size := by omega
  clear s_
  go_wp2_with fail
  refine (H2.out _ hs).mono ?_
  rintro e w2 ⟨rfl, hb2⟩
  go_wp2_with fail
  go_ret
  exact ⟨(by first | rfl | (simp; done) | (simp [*]; done) | (rw [if_pos (by omega)]; first | rfl | (simp; done)) | (rw [if_neg (by omega)]; first | rfl | (simp; done)) | (simp; omega)), (by repeat (first | exact Below.refl _ _ | apply below_alloc | apply pw_below_drewN | apply below_drew1 | (refine Below.setCell ?_ (by first | (simp; done) | (simp; omega) | omega) _) | (refine below_then ?_ (by first | (simp; done) | (simp; omega) | omega) hb2) | (refine below_then ?_ (by first | (simp; done) | (simp; omega) | omega) hb1)))⟩
end Go.Proofs.Ytioemcfadniokaa.H
