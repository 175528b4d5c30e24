/- Tapes: book.Recover. -/
import Derived.Test.YtdffojjimoilgaaDoorDecD
import Derived.Test.YtdffojjimoilgaaDoorTapeB
namespace Go.Proofs.YtdffojjimoilgaaDoor.H
open Go.RowKit Go.Proofs.YtdffojjimoilgaaDoorW.PrintWords Go.Proofs.YtdffojjimoilgaaDoorW.PrintLast Go.Proofs.YtdffojjimoilgaaDoorW.PrintMore Go.Proofs.YtdffojjimoilgaaDoor.U
set_option linter.unusedVariables false
set_option linter.unusedSimpArgs false
def kB : Kd (Int × List AEntry) := Kd.pair (Kd.int .i64) (Kd.slice 60 kAEntry)
theorem numS_adv (bs : List Int) (p k : Nat) (h : (numS bs (p, false) k).2.2 = false) : (numS bs (p, false) k).2.1 = p + k ∧ p + k ≤ bs.length := by
  unfold numS at *
  split at h
  · cases h
  · rename_i h2
    rw [if_neg h2]
    exact ⟨rfl, by rcases Nat.lt_or_ge bs.length (p + k) with h3 | h3; exact absurd (.inr h3) h2; exact h3⟩
/-- Batches one behind the other, from a place on: those that are whole, and where they end. -/
def recG (bs : List Int) (p : Nat) (acc : List (Int × List AEntry)) : List (Int × List AEntry) × Nat :=
  if h : (numS bs (p, false) 3).2.2 = true ∨ bs.length < (numS bs (p, false) 3).2.1 + (numS bs (p, false) 3).1.toNat then (acc, p)
  else if (decV ((bs.drop (numS bs (p, false) 3).2.1).take (numS bs (p, false) 3).1.toNat)).1 = 0 then
    recG bs ((numS bs (p, false) 3).2.1 + (numS bs (p, false) 3).1.toNat) (acc ++ [(decV ((bs.drop (numS bs (p, false) 3).2.1).take (numS bs (p, false) 3).1.toNat)).2])
  else (acc, p)
termination_by bs.length - p
decreasing_by
  have h1 : (numS bs (p, false) 3).2.2 = false := by
    cases h2 : (numS bs (p, false) 3).2.2 with
    | false => rfl
    | true => exact absurd (.inl h2) h
  have := numS_adv bs p 3 h1
  have h3 : ¬ bs.length < (numS bs (p, false) 3).2.1 + (numS bs (p, false) 3).1.toNat := fun h4 => h (.inr h4)
  omega
theorem recG_stop {bs : List Int} {p : Nat} {acc : List (Int × List AEntry)} (h : (numS bs (p, false) 3).2.2 = true ∨ bs.length < (numS bs (p, false) 3).2.1 + (numS bs (p, false) 3).1.toNat) : recG bs p acc = (acc, p) := by
  rw [recG, dif_pos h]
theorem recG_bad {bs : List Int} {p q n : Nat} {acc : List (Int × List AEntry)} (e : numS bs (p, false) 3 = ((n : Int), (q, false))) (h : q + n ≤ bs.length) (h2 : ¬ (decV ((bs.drop q).take n)).1 = 0) : recG bs p acc = (acc, p) := by
  rw [recG, dif_neg (by rw [e]; intro h3; rcases h3 with h3 | h3; cases h3; simp at h3; omega), e]
  simp only [Int.toNat_natCast]
  rw [if_neg h2]
theorem recG_go {bs : List Int} {p q n : Nat} {acc : List (Int × List AEntry)} (e : numS bs (p, false) 3 = ((n : Int), (q, false))) (h : q + n ≤ bs.length) (h2 : (decV ((bs.drop q).take n)).1 = 0) : recG bs p acc = recG bs (q + n) (acc ++ [(decV ((bs.drop q).take n)).2]) := by
  conv => lhs; rw [recG, dif_neg (by rw [e]; intro h3; rcases h3 with h3 | h3; cases h3; simp at h3; omega), e]
  simp only [Int.toNat_natCast]
  rw [if_pos h2]
def recFin (bs : List Int) (s : Int) (G : List (Int × List AEntry) × Nat) : Int × List (Int × List AEntry) × List Int × Int :=
  (0, G.1, bs.take G.2, if s ≤ (G.2 : Int) then s else (G.2 : Int))
def recV (bs : List Int) (s : Int) : Int × List (Int × List AEntry) × List Int × Int :=
  if 0 ≤ s ∧ s ≤ bs.length ∧ bs.length ≤ 100000 then recFin bs s (recG bs 0 []) else (11, [], [], 0)
def PostRec (w : World) (R : Int × List (Int × List AEntry) × List Int × Int) (e : Ending) (w' : World) : Prop :=
  ∃ A c A2 c2, e = .returned (.tuple #[.slice A R.2.1.length c, .agg #[.slice A2 R.2.2.1.length c2, .int .i64 R.2.2.2], .int .i64 R.1]) ∧ kB.C w' A R.2.1.length R.2.1 ∧ (Kd.int .u8).C w' A2 R.2.2.1.length R.2.2.1 ∧ Below w.heap.size w w'
section
variable {ops : Array Oper} {rest : List Oper} {o : Oper} {a : Act} {Q : Exit → Act → World → Prop}
/-- append(v, batch), the batch's entries in a row that was made later. -/
theorem snocB_list (base base2 : Nat) {W : World} (hgd : o.guard = none) (s x : Operand)
    (ho : o.op = .call { callee := .builtin .append, args := #[s, x], argTypes := #[43, 43] })
    (v : Value) (xs : List (Int × List AEntry)) (u : Int) (es : List AEntry) (vb : Value) (hs : a.eval s = v) (hx : a.eval x = .slice (some ⟨W.heap.size, 0, none⟩) 1 1)
    (hM : Kd.R kAEntry 60 W base2 (fun _ => True) vb es) (hb2 : base ≤ base2) (hvo : ∀ k, v.ownBlock = some k → k < base2)
    (HO : Kd.R kB 24 W base (fun _ => True) v xs) (hbase : base ≤ W.heap.size) (hl : (xs.length + 1) * 32 ≤ 140737488355328)
    (h : ∀ v1 w1, Kd.R kB 24 w1 base (fun _ => True) v1 (xs ++ [(u, es)]) → Below base W w1 → wpList Tryd.prog ops Q rest (a.put o.dst v1) w1) :
    wpList Tryd.prog ops Q (o :: rest) a (W.alloc (.cells #[.int .i64 u, vb] 24)) :=
  Kd.R_append kB (w0 := W) base hgd s x 43 24 (.agg #[.int .i64 0, .slice none 0 0]) 32 ho Tryd.underlying43 (by kernel_rfl) rfl (by decide) (by decide) v xs (u, es) [.int .i64 u, vb] (fun _ => True) (fun k => base2 ≤ k) hs hx
    ⟨[.int .i64 u], [vb], rfl, rfl, ⟨vb, rfl, Kd.R_mono (Kd.R_lower (Kd.R_bound hM) hb2) (fun k hk => hk.2.1)⟩⟩ (fun k hk => ⟨trivial, fun he => by have := hvo k he.symm; omega⟩) (fun _ _ => trivial) HO (Below.refl _ _) hbase hl (fun v1 w1 hR hb _ _ => h v1 w1 hR hb)
end
theorem below_new {w w1 : World} {b : Nat} (hg : w.grownBy w1 (some b)) (hb : w.heap.size ≤ b) : Below w.heap.size w w1 :=
  (Below.refl w.heap.size w).grown hg (Nat.le_refl _) (fun z hz => by have := Option.some.inj hz; omega)
end Go.Proofs.YtdffojjimoilgaaDoor.H
