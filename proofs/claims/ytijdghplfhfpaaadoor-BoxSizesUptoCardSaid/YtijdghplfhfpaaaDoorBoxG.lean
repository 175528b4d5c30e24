/- Boxes: box.Check. -/
import Derived.Test.YtijdghplfhfpaaaDoorBoxF
import Derived.Test.YtijdghplfhfpaaaDoorBoxB
import Derived.Deep.RegionHeld3
namespace Go.Proofs.YtijdghplfhfpaaaDoor.H
open Go.RowKit Go.Proofs.YtijdghplfhfpaaaDoorW.PrintWords Go.Proofs.YtijdghplfhfpaaaDoorW.PrintLast Go.Proofs.YtijdghplfhfpaaaDoorW.PrintMore Go.Proofs.YtijdghplfhfpaaaDoor.U
set_option linter.unusedVariables false
set_option linter.unusedSimpArgs false
def boxesFrom (bs : List ABox) (k : Nat) : Bool :=
  if h : k < bs.length then (if boxOk bs[k] = true ∧ findG bs[k].1 (bs.take k) 0 < 0 then boxesFrom bs (k + 1) else false) else true
termination_by bs.length - k
theorem boxes_bad {bs : List ABox} {k : Nat} (h : k < bs.length) (h2 : ¬ (boxOk bs[k] = true ∧ findG bs[k].1 (bs.take k) 0 < 0)) : boxesFrom bs k = false := by rw [boxesFrom, dif_pos h, if_neg h2]
theorem boxes_good {bs : List ABox} {k : Nat} (h : k < bs.length) (h1 : boxOk bs[k] = true) (h2 : findG bs[k].1 (bs.take k) 0 < 0) : boxesFrom bs k = boxesFrom bs (k + 1) := by
  conv => lhs; rw [boxesFrom, dif_pos h, if_pos ⟨h1, h2⟩]
theorem boxes_end {bs : List ABox} {k : Nat} (h : ¬ k < bs.length) : boxesFrom bs k = true := by rw [boxesFrom, dif_neg h]
def spoolOk : List AEntry → Bool
  | [] => true
  | x :: l => if x.kind = 6 ∧ entryFault x = 0 then spoolOk l else false
theorem spool_bad {l : List AEntry} {k : Nat} (h : k < l.length) (h2 : ¬ (l[k].kind = 6 ∧ entryFault l[k] = 0)) : spoolOk (l.drop k) = false := by rw [List.drop_eq_getElem_cons h, spoolOk, if_neg h2]
theorem spool_good {l : List AEntry} {k : Nat} (h : k < l.length) (h1 : l[k].kind = 6) (h2 : entryFault l[k] = 0) : spoolOk (l.drop k) = spoolOk (l.drop (k + 1)) := by rw [List.drop_eq_getElem_cons h, spoolOk, if_pos ⟨h1, h2⟩]
theorem spool_end (l : List AEntry) : spoolOk (l.drop l.length) = true := by rw [List.drop_length]; rfl
/-- What is wrong with a state, behind the lengths. -/
def stTail (bs : List ABox) (es : List AEntry) : Int := if boxesFrom bs 0 = true then (if spoolOk es = true then (if 6000 < stSize bs then 11 else 0) else 11) else 11
def stFault (bs : List ABox) (es : List AEntry) : Int := if 5 < bs.length ∨ 20 < es.length then 11 else stTail bs es
def okSt (bs : List ABox) (es : List AEntry) : Prop := (∀ b ∈ bs, b.1.size ≤ 1048576) ∧ ∀ x ∈ es, x.box.size ≤ 1048576 ∧ x.to_.size ≤ 1048576 ∧ x.text.size ≤ 1048576
theorem mails_sz {nx : Int} {l : List AMail} : ∀ {last : Int}, mailsOk nx last l = true → mailsSize l ≤ l.length * 2000 := by
  induction l with
  | nil => intro last _; simp [mailsSize]
  | cons m l ih =>
    intro last h
    rw [mailsOk] at h
    by_cases hb : mailBad nx last m
    · rw [if_pos hb] at h; cases h
    · rw [if_neg hb] at h
      have h1 := ih h
      have h2 : ¬ 2000 < m.text.size := fun h3 => hb (.inr (.inr (.inr (.inr h3))))
      unfold mailsSize at *
      rw [List.map_cons, List.sum_cons, List.length_cons]; omega
theorem box_sz {b : ABox} (h : boxOk b = true) : mailsSize b.2.2 ≤ 60000 := by
  unfold boxOk at h
  split at h
  · cases h
  · rename_i h2
    have h3 := mails_sz h
    have h4 : ¬ 30 < b.2.2.length := fun h5 => h2 (.inr (.inr (.inr h5)))
    omega
theorem boxes_sz {bs : List ABox} : ∀ (n k : Nat), bs.length - k = n → boxesFrom bs k = true → stSize (bs.drop k) ≤ (bs.length - k) * 60000 := by
  intro n
  induction n with
  | zero =>
    intro k hk _
    rw [List.drop_eq_nil_of_le (by omega)]; exact Nat.zero_le _
  | succ n ih =>
    intro k hk h
    have hlt : k < bs.length := by omega
    rw [boxesFrom, dif_pos hlt] at h
    by_cases hb : boxOk bs[k] = true ∧ findG bs[k].1 (bs.take k) 0 < 0
    · rw [if_pos hb] at h
      have h1 := ih (k + 1) (by omega) h
      have h2 := box_sz hb.1
      rw [st_step hlt]
      have h3 : (bs.length - k) * 60000 = (bs.length - (k + 1)) * 60000 + 60000 := by
        rw [show bs.length - k = (bs.length - (k + 1)) + 1 by omega, Nat.add_mul]
      omega
    · rw [if_neg hb] at h; cases h
end Go.Proofs.YtijdghplfhfpaaaDoor.H
