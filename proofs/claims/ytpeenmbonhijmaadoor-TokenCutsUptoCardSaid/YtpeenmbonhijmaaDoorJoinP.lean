/- Plain law of joined tokens: what strings.ReplaceAll does at one byte; quoting; digits. -/
import Derived.Test.YtpeenmbonhijmaaDoorKinds
import Derived.Lib.Replace
import Derived.Lib.ItoaNum
namespace Go.Proofs.YtpeenmbonhijmaaDoor.H
set_option linter.unusedVariables false
set_option linter.unusedSimpArgs false
theorem repl_ne (b c : UInt8) (new : List UInt8) (h : b ≠ c) : ∀ (k : Nat) (t : List UInt8), Lib.replaceK [c] new k (b :: t) = b :: Lib.replaceK [c] new k t
  | 0, t => rfl
  | k + 1, t => by
    have hp : ([c] : List UInt8).isPrefixOf (b :: t) = false := by simp [List.isPrefixOf]; exact fun e => h e.symm
    have hge := Lib.index_ge t [c]
    have hi : Lib.index (b :: t) [c] = if Lib.index t [c] == -1 then -1 else Lib.index t [c] + 1 := by
      rw [Lib.index, hp]; rfl
    have st : ∀ u : List UInt8, Lib.replaceK [c] new (k + 1) u = if Lib.index u [c] == -1 then u else u.take (Lib.index u [c]).toNat ++ new ++ Lib.replaceK [c] new k (u.drop ((Lib.index u [c]).toNat + [c].length)) := fun _ => rfl
    rw [st, st, hi]
    by_cases hm : (Lib.index t [c] == -1) = true
    · rw [if_pos hm, if_pos (show ((-1 : Int) == -1) = true from rfl), if_pos hm]
    · rw [if_neg hm, if_neg hm]
      have hm' : Lib.index t [c] ≠ -1 := fun e => hm (by rw [e]; rfl)
      have e1 : (Lib.index t [c] + 1).toNat = (Lib.index t [c]).toNat + 1 := by omega
      have e2 : ((Lib.index t [c] + 1) == -1) = false := by rw [beq_eq_false_iff_ne]; omega
      rw [e2, e1]
      simp [List.take_succ_cons]
theorem repl_eq (c : UInt8) (new : List UInt8) (k : Nat) (t : List UInt8) : Lib.replaceK [c] new (k + 1) (c :: t) = new ++ Lib.replaceK [c] new k t := by
  have hi : Lib.index (c :: t) [c] = 0 := by rw [Lib.index]; simp [List.isPrefixOf]
  have st : ∀ u : List UInt8, Lib.replaceK [c] new (k + 1) u = if Lib.index u [c] == -1 then u else u.take (Lib.index u [c]).toNat ++ new ++ Lib.replaceK [c] new k (u.drop ((Lib.index u [c]).toNat + [c].length)) := fun _ => rfl
  rw [st, hi]
  rfl
theorem repl_all (c : UInt8) (new : List UInt8) (hne : [c] ≠ new) (s : List UInt8) : Lib.replaceAll s [c] new = s.flatMap fun b => if b = c then new else [b] := by
  have key : ∀ s : List UInt8, Lib.replaceK [c] new (s.count c) s = s.flatMap fun b => if b = c then new else [b] := by
    intro s
    induction s with
    | nil => rfl
    | cons b t ih =>
      by_cases h : b = c
      · subst h
        rw [List.count_cons_self, repl_eq, ih]; simp
      · rw [List.count_cons_of_ne (fun e => h e), repl_ne b c new h, ih]; simp [h]
  have hn : ([c] == new) = false := by rw [beq_eq_false_iff_ne]; exact hne
  rw [Lib.replaceAll, Lib.replace, hn, ← key s, ← Lib.count_one c s]
  rfl
def escL (s : List UInt8) : List UInt8 := s.flatMap fun b => if b = 34 ∨ b = 92 then [92, b] else [b]
theorem esc_two (s : List UInt8) : (s.flatMap fun b => if b = 92 then [92, 92] else [b]).flatMap (fun b => if b = 34 then [92, 34] else [b]) = escL s := by
  rw [escL, List.flatMap_assoc]
  congr 1
  funext b
  by_cases h1 : b = 92
  · subst h1; rfl
  · by_cases h2 : b = 34
    · subst h2; rfl
    · simp [h1, h2]
theorem escL_le (s : List UInt8) : (escL s).length ≤ 2 * s.length := by
  induction s with
  | nil => simp [escL]
  | cons b t ih =>
    have : escL (b :: t) = (if b = 34 ∨ b = 92 then [92, b] else [b]) ++ escL t := by simp [escL]
    rw [this, List.length_append, List.length_cons]
    split <;> simp <;> omega
theorem esc_snoc (s : List UInt8) (k : Nat) (h : k < s.length) : escL (s.take (k + 1)) = escL (s.take k) ++ (if s[k] = 34 ∨ s[k] = 92 then [92, s[k]] else [s[k]]) := by
  rw [List.take_succ_eq_append_getElem h, escL, List.flatMap_append]; simp [escL]
theorem dig_small (n : Nat) (h : n < 10) : Lib.decDigits n = [UInt8.ofNat (48 + n)] := by rw [Lib.decDigits, dif_pos h]
theorem dig_big (n : Nat) (h : ¬ n < 10) : Lib.decDigits n = Lib.decDigits (n / 10) ++ [UInt8.ofNat (48 + n % 10)] := by rw [Lib.decDigits, dif_neg h]
theorem dig_len : ∀ (k n : Nat), n < 10 ^ (k + 1) → (Lib.decDigits n).length ≤ k + 1
  | 0, n, h => by rw [dig_small n (by simpa using h)]; simp
  | k + 1, n, h => by
    by_cases h1 : n < 10
    · rw [dig_small n h1]; simp
    · rw [dig_big n h1, List.length_append]
      have := dig_len k (n / 10) (by rw [Nat.pow_succ] at h; omega)
      simp; omega
end Go.Proofs.YtpeenmbonhijmaaDoor.H
