/- Sessions: the walk of lmtp.Check. -/
import Derived.Test.YtpeenmbonhijmaaDoorLmtpA
namespace Go.Proofs.YtpeenmbonhijmaaDoor.H
open Go.RowKit Go.Proofs.YtpeenmbonhijmaaDoorW.PrintWords Go.Proofs.YtpeenmbonhijmaaDoorW.PrintLast Go.Proofs.YtpeenmbonhijmaaDoorW.PrintMore Go.Proofs.YtpeenmbonhijmaaDoor.U
set_option linter.unusedVariables false
set_option linter.unusedSimpArgs false
attribute [local go_sem high] eqAAddress eqbAAddress_self
set_option maxHeartbeats 1000000 in
set_option maxRecDepth 100000 in
theorem lmtpCheck_bad (st : Int) (fr : AAddress) (A : Option Addr) (c : Nat) (l : List AAddress) (tx : ByteArray) (lg : Bool) (w : World) (h : st < 0 ∨ 5 < st ∨ 5 < l.length ∨ 2000 < tx.size) :
    Calls Tryd.prog 15 #[.agg #[.int .i64 st, .string fr.loc, .string fr.dom, .slice A l.length c, .string tx, .bool lg]] w fun e w' => e = .returned (.int .i64 11) ∧ Below w.heap.size w w' := by
  rcases (by omega : st < 0 ∨ (¬ st < 0 ∧ 5 < st) ∨ (¬ st < 0 ∧ ¬ 5 < st ∧ (5 : Int) < l.length) ∨ (¬ st < 0 ∧ ¬ 5 < st ∧ ¬ (5 : Int) < l.length ∧ (2000 : Int) < tx.size)) with h | ⟨h1, h⟩ | ⟨h1, h2, h⟩ | ⟨h1, h2, h3, h⟩
  all_goals
    go_enter Tryd.func15, Tryd.ntmps15
    go_wp2_with fail
    go_ret
    exact ⟨(by first | rfl | (simp; done) | (simp [*]; done) | (rw [if_pos (by omega)]; first | rfl | (simp; done)) | (rw [if_neg (by omega)]; first | rfl | (simp; done)) | (simp; omega)), (by repeat (first | exact Below.refl _ _ | apply below_alloc | apply pw_below_drewN | apply below_drew1 | (refine Below.setCell ?_ (by first | (simp; done) | (simp; omega) | omega) _) ))⟩
theorem beq_empty_no {t : ByteArray} (h : ¬ t.size = 0) : (t.toList == []) = false :=
  lit_no (l := []) (fun e => h (by rw [e]; rfl))
theorem size0 {t : ByteArray} (h : t.size = 0) : t = ⟨#[]⟩ := by
  cases t with | mk d => simp [ByteArray.size] at h; simp [h]
set_option maxHeartbeats 1000000 in
set_option maxRecDepth 100000 in
theorem lmtpCheck_015 (st : Int) (hst : st = 0 ∨ st = 1 ∨ st = 5) (fr : AAddress) (A : Option Addr) (c : Nat) (l : List AAddress) (tx : ByteArray) (lg : Bool) (w : World) (hl : l.length ≤ 5) (ht : tx.size ≤ 2000) :
    Calls Tryd.prog 15 #[.agg #[.int .i64 st, .string fr.loc, .string fr.dom, .slice A l.length c, .string tx, .bool lg]] w fun e w' => e = .returned (.int .i64 (sessFault st fr l tx lg)) ∧ Below w.heap.size w w' := by
  have hi : ¬ (5 : Int) < l.length := by omega
  have hi2 : ¬ (2000 : Int) < tx.size := by omega
  by_cases hl0 : l.length = 0
  · by_cases hf : fr = emptyA
    · subst hf
      by_cases ht0 : tx.size = 0
      · obtain rfl := size0 ht0
        cases lg with
        | false =>
          rw [sess_yes (by rcases hst with rfl | rfl | rfl <;> (simp [sessMay, hl0]; exact ⟨ht, rfl⟩))]
          rcases hst with rfl | rfl | rfl
          all_goals
            unfold emptyA
            dsimp only
            go_enter Tryd.func15, Tryd.ntmps15
            go_wp2_with fail
            go_ret
            exact ⟨(by first | rfl | (simp; done) | (simp [*]; done) | (rw [if_pos (by omega)]; first | rfl | (simp; done)) | (rw [if_neg (by omega)]; first | rfl | (simp; done)) | (simp; omega)), (by repeat (first | exact Below.refl _ _ | apply below_alloc | apply pw_below_drewN | apply below_drew1 | (refine Below.setCell ?_ (by first | (simp; done) | (simp; omega) | omega) _) ))⟩
        | true =>
          rw [sess_no (by rcases hst with rfl | rfl | rfl <;> simp [sessMay])]
          rcases hst with rfl | rfl | rfl
          all_goals
            unfold emptyA
            dsimp only
            go_enter Tryd.func15, Tryd.ntmps15
            go_wp2_with fail
            go_ret
            exact ⟨(by first | rfl | (simp; done) | (simp [*]; done) | (rw [if_pos (by omega)]; first | rfl | (simp; done)) | (rw [if_neg (by omega)]; first | rfl | (simp; done)) | (simp; omega)), (by repeat (first | exact Below.refl _ _ | apply below_alloc | apply pw_below_drewN | apply below_drew1 | (refine Below.setCell ?_ (by first | (simp; done) | (simp; omega) | omega) _) ))⟩
      · have hn := beq_empty_no ht0
        rw [sess_no (by rcases hst with rfl | rfl | rfl <;> simp [sessMay, ht0])]
        rcases hst with rfl | rfl | rfl
        all_goals
          unfold emptyA
          dsimp only
          go_enter Tryd.func15, Tryd.ntmps15
          go_wp2_with fail
          go_ret
          exact ⟨(by first | rfl | (simp; done) | (simp [*]; done) | (rw [if_pos (by omega)]; first | rfl | (simp; done)) | (rw [if_neg (by omega)]; first | rfl | (simp; done)) | (simp; omega)), (by repeat (first | exact Below.refl _ _ | apply below_alloc | apply pw_below_drewN | apply below_drew1 | (refine Below.setCell ?_ (by first | (simp; done) | (simp; omega) | omega) _) ))⟩
    · have hn : eqbAAddress fr ⟨⟨#[]⟩, ⟨#[]⟩⟩ = false := by rw [Bool.eq_false_iff]; intro h; exact hf (eqbAAddress_iff.1 h)
      rw [sess_no (by rcases hst with rfl | rfl | rfl <;> simp [sessMay, hf])]
      rcases hst with rfl | rfl | rfl
      all_goals
        go_enter Tryd.func15, Tryd.ntmps15
        go_wp2_with fail
        go_ret
        exact ⟨(by first | rfl | (simp; done) | (simp [*]; done) | (rw [if_pos (by omega)]; first | rfl | (simp; done)) | (rw [if_neg (by omega)]; first | rfl | (simp; done)) | (simp; omega)), (by repeat (first | exact Below.refl _ _ | apply below_alloc | apply pw_below_drewN | apply below_drew1 | (refine Below.setCell ?_ (by first | (simp; done) | (simp; omega) | omega) _) ))⟩
  · have hi3 : (0 : Int) < l.length := by omega
    rw [sess_no (by rcases hst with rfl | rfl | rfl <;> simp [sessMay, hl0])]
    rcases hst with rfl | rfl | rfl
    all_goals
      go_enter Tryd.func15, Tryd.ntmps15
      go_wp2_with fail
      go_ret
      exact ⟨(by first | rfl | (simp; done) | (simp [*]; done) | (rw [if_pos (by omega)]; first | rfl | (simp; done)) | (rw [if_neg (by omega)]; first | rfl | (simp; done)) | (simp; omega)), (by repeat (first | exact Below.refl _ _ | apply below_alloc | apply pw_below_drewN | apply below_drew1 | (refine Below.setCell ?_ (by first | (simp; done) | (simp; omega) | omega) _) ))⟩
end Go.Proofs.YtpeenmbonhijmaaDoor.H
