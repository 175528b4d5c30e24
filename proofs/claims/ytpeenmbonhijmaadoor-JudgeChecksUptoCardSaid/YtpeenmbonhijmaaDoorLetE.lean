/- Letters: the walks of messages and sameMessage. -/
import Derived.Test.YtpeenmbonhijmaaDoorLetD
namespace Go.Proofs.YtpeenmbonhijmaaDoor.H
open Go.RowKit Go.Proofs.YtpeenmbonhijmaaDoorW.PrintWords Go.Proofs.YtpeenmbonhijmaaDoorW.PrintLast Go.Proofs.YtpeenmbonhijmaaDoorW.PrintMore Go.Proofs.YtpeenmbonhijmaaDoor.U
set_option linter.unusedVariables false
set_option linter.unusedSimpArgs false
def eqbAField (x y : AField) : Bool := x.name.toList == y.name.toList && (x.value.toList == y.value.toList)
theorem eqbAField_iff {x y : AField} : eqbAField x y = true ↔ x = y := by
  cases x; cases y
  simp only [eqbAField, Bool.and_eq_true, beq_iff_eq, ByteArray.toList_eq, bytes_iff, AField.mk.injEq]
theorem eqbAField_self (x : AField) : eqbAField x x = true := eqbAField_iff.2 rfl
theorem eqAField (d : Nat) (w : World) (x_name : ByteArray) (x_value : ByteArray) (y_name : ByteArray) (y_value : ByteArray) :
    (Op.equalIn (d + 2) 100 (.agg #[.string x_name, .string x_value]) (.agg #[.string y_name, .string y_value])).run Tryd.prog w = .ok (eqbAField ⟨x_name, x_value⟩ ⟨y_name, y_value⟩) w := by
  refine eqA_of Tryd.underlying100 (by kernel_rfl) ?_
  refine eqf_cons (by rfl) (by go_simp; rfl) (by go_simp; rfl) (by go_simp) ?_
  exact eqf_last (by rfl) (by go_simp; rfl) (by go_simp; rfl) (by go_simp)
attribute [local go_sem high] eqAField eqbAField_self
set_option maxHeartbeats 1000000 in
set_option maxRecDepth 100000 in
theorem messages_calls (A : Option Addr) (c : Nat) (l : List AField) (body : ByteArray) (w : World) (hr : Kd.C kAField w A l.length l) (hl : l.length * 32 ≤ 140737488355328) :
    Calls Tryd.prog 26 #[.agg #[.slice A l.length c, .string body]] w fun e w' => ∃ v : Value, e = .returned (.agg #[v, .string body]) ∧ Kd.R kAField 100 w' w.heap.size (fun _ => True) v l ∧ Below w.heap.size w w' := by
  go_enter Tryd.func26, Tryd.ntmps26
  go_wp2
  go_region_held3 (fun w' => w'.cell? ⟨w.heap.size, 0, none⟩ = some (.slice A l.length c) ∧ w'.cell? ⟨w.heap.size, 1, none⟩ = some (.string body))
    (first | go_keep | (refine ⟨?_, ?_⟩ <;> (rw [hc _ _ (by simp; omega)]; simp)))
    ((refine clone_step rowAField (by rfl) _ _ (by rfl) l A c (by rfl) (by rfl) (Kd.C_below hr (by repeat (first | exact Below.refl _ _ | apply below_alloc | apply pw_below_drewN | apply below_drew1))) (by omega) ?_; intro A1 c1 w1 hR hb1; obtain ⟨hc, hf⟩ := bcell hb1))
  go_wp2
  have hz := hb1.size
  simp at hz
  refine bodyPost_ret (v := .agg #[.slice A1 l.length c1, .string body]) (by simp [results, Tryd.results26, go_sem, hc]) rfl ⟨_, rfl, ?_, ?_⟩
  · exact Kd.R_lower (R_elder (R_elder hR (by simp) _) (by simp) _) (by simp; omega)
  · exact ((((((Below.refl w.heap.size w).alloc (Nat.le_refl _) _).alloc (by simp) _).drew).trans (hb1.mono (by simp; omega))).setCell (by simp) _).setCell (by simp) _
set_option maxHeartbeats 1000000 in
set_option maxRecDepth 100000 in
theorem sameMessage_calls (A : Option Addr) (c : Nat) (A2 : Option Addr) (c2 : Nat) (l : List AField) (body : ByteArray) (w : World) (hr : Kd.C kAField w A l.length l) (hr2 : Kd.C kAField w A2 l.length l) :
    Calls Tryd.prog 25 #[.agg #[.slice A l.length c, .string body], .agg #[.slice A2 l.length c2, .string body]] w fun e w' => e = .returned (.bool true) ∧ Below w.heap.size w w' := by
  have h63 := hr.2.1
  go_enter Tryd.func25, Tryd.ntmps25
  go_wp2
  go_loopw [4, 5] (fun _ i wr => ∃ k : Nat, k ≤ l.length ∧ i = .int .i64 k ∧ Below (w.heap.size + 2) ((w.alloc (.cells #[.slice A l.length c, .string body] 41)).alloc (.cells #[.slice A2 l.length c2, .string body] 41)) wr) (fun _ i _ => l.length - (intOf i).toNat)
  case atStart => exact ⟨0, Nat.zero_le _, rfl, Below.refl _ _⟩
  case round =>
    obtain ⟨k, hk, rfl, hB⟩ := hrel
    obtain ⟨hcb, hfb⟩ := bcellB hB
    have hBw : Below w.heap.size w wr := Below.trans (by repeat (first | exact Below.refl _ _ | apply below_alloc | apply pw_below_drewN | apply below_drew1 | (refine Below.setCell ?_ (by first | (simp; done) | (simp; omega) | omega) _) )) (Below.mono hB (by omega))
    have m0 : wr.cell? ⟨w.heap.size, 0, none⟩ = some (.slice A l.length c) := by rw [hcb _ _ (by omega)]; simp
    have m1 : wr.cell? ⟨w.heap.size + 1, 0, none⟩ = some (.slice A2 l.length c2) := by rw [hcb _ _ (by omega)]; simp
    clear hcb hfb
    by_cases hlt : k < l.length
    · obtain ⟨ad, e1, hx0, hxj⟩ := flat_at (Kd.C_below hr hBw) k hlt
      obtain ⟨ad2, e2, hy0, hyj⟩ := flat_at (Kd.C_below hr2 hBw) k hlt
      subst e1 e2
      have q0 := hx0 _ rfl; have q1 := hxj 1 _ (by decide) rfl
      have r0 := hy0 _ rfl; have r1 := hyj 1 _ (by decide) rfl
      clear hx0 hxj hy0 hyj
      have i0 : (0 : Int) ≤ (k : Int) := by omega
      have i1 : (k : Int) < (l.length : Int) := by omega
      go_wp2
      go_quiet (fail)
      go_wp2
      go_roundw
      case rel => exact ⟨k + 1, by omega, by go_num, (by repeat (first | exact Below.refl _ _ | apply below_alloc | apply pw_below_drewN | apply below_drew1 | (refine Below.setCell ?_ (by first | (simp; done) | (simp; omega) | omega) _) | exact hB))⟩
      case measure => simp [intOf]; omega
    · obtain rfl : k = l.length := by omega
      go_wp2
      go_ret
      exact ⟨(by first | rfl | (simp; done) | (simp [*]; done) | (rw [if_pos (by omega)]; first | rfl | (simp; done)) | (rw [if_neg (by omega)]; first | rfl | (simp; done)) | (simp; omega)), (by repeat (first | exact Below.refl _ _ | apply below_alloc | apply pw_below_drewN | apply below_drew1 | (refine Below.setCell ?_ (by first | (simp; done) | (simp; omega) | omega) _) | exact hBw))⟩
end Go.Proofs.YtpeenmbonhijmaaDoor.H
