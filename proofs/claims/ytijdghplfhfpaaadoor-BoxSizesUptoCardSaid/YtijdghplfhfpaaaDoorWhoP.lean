/- Atoms with dots between: the scan and the pieces say the same. No program in sight. -/
import Derived.Lib.SplitLaws
import Derived.Lib.IndexBytes
namespace Go.Proofs.YtijdghplfhfpaaaDoor.H
def markList : List Int := [33, 35, 36, 37, 38, 39, 42, 43, 45, 47, 61, 63, 94, 95, 123, 124, 125, 126, 96]
def alnumB (c : Int) : Bool := (decide (97 ≤ c) && decide (c ≤ 122)) || (decide (65 ≤ c) && decide (c ≤ 90)) || (decide (48 ≤ c) && decide (c ≤ 57))
def atomB (c : Int) : Bool := alnumB c || markList.contains c
/-- The scan: is the byte ahead a dot? -/
def scanB : Bool → List UInt8 → Bool
  | last, [] => !last
  | last, c :: r => if c = 46 then !last && scanB true r else atomB c.toNat && scanB false r
def pieceB (p : List UInt8) : Bool := !p.isEmpty && p.all fun c => atomB c.toNat
def consHead (c : UInt8) : List (List UInt8) → List (List UInt8)
  | [] => [[c]]
  | p :: r => (c :: p) :: r
theorem split_eq (l : List UInt8) : Lib.split (46 :: l) [46] = [] :: Lib.split l [46] := by
  unfold Lib.split
  rw [Lib.count_cons_eq, Nat.add_comm 1, Lib.splitK]
  have hix : Lib.index (46 :: l) [46] = 0 := by rw [Lib.index]; simp [List.isPrefixOf]
  rw [hix]; simp
theorem split_ne (c : UInt8) (l : List UInt8) (h : c ≠ 46) : Lib.split (c :: l) [46] = consHead c (Lib.split l [46]) := by
  have hp : ([46] : List UInt8).isPrefixOf (c :: l) = false := by simp [List.isPrefixOf, Ne.symm h]
  have hix : Lib.index (c :: l) [46] = if Lib.index l [46] == -1 then -1 else Lib.index l [46] + 1 := by rw [Lib.index, hp]; simp
  unfold Lib.split
  rw [Lib.count_cons_ne c 46 l h]
  cases hk : Lib.count l [46] with
  | zero => rfl
  | succ k =>
    have hm : Lib.index l [46] ≠ -1 := fun e => by rw [Lib.count_miss e] at hk; cases hk
    have hge := Lib.index_ge l [46]
    obtain ⟨j, hj⟩ : ∃ j : Nat, Lib.index l [46] = j := ⟨(Lib.index l [46]).toNat, by omega⟩
    have hix' : Lib.index (c :: l) [46] = ((j + 1 : Nat) : Int) := by rw [hix, if_neg (fun e => hm (beq_iff_eq.1 e)), hj]; omega
    rw [Lib.splitK, Lib.splitK, hix', hj, if_neg (by first | (simp; done) | (simp; omega)), if_neg (by first | (simp; done) | (simp; omega))]
    simp [consHead]
theorem split_some (l : List UInt8) : ∃ p r, Lib.split l [46] = p :: r := by
  cases l with
  | nil => exact ⟨[], [], by simp [Lib.split, Lib.count_one, Lib.splitK]⟩
  | cons c l =>
    by_cases h : c = 46
    · subst h; exact ⟨_, _, split_eq l⟩
    · rw [split_ne c l h]
      cases Lib.split l [46] <;> exact ⟨_, _, rfl⟩
theorem split_len : ∀ l : List UInt8, ∀ q ∈ Lib.split l [46], q.length ≤ l.length
  | [] => by
    have e : Lib.split [] [46] = [[]] := by simp [Lib.split, Lib.count_one, Lib.splitK]
    rw [e]; simp
  | c :: l => by
    have ih := split_len l
    by_cases h : c = 46
    · subst h
      rw [split_eq]
      intro q hq
      rcases List.mem_cons.1 hq with rfl | hq
      · simp
      · have := ih q hq; simp; omega
    · obtain ⟨p, r, e⟩ := split_some l
      rw [split_ne c l h, e]
      rw [e] at ih
      intro q hq
      rcases List.mem_cons.1 hq with rfl | hq
      · have := ih p (by simp); simp; omega
      · have := ih q (by simp [hq]); simp; omega
theorem scan_pieces : ∀ l : List UInt8, (scanB true l = (Lib.split l [46]).all pieceB) ∧ ∀ p r, Lib.split l [46] = p :: r → scanB false l = ((p.all fun c => atomB c.toNat) && r.all pieceB)
  | [] => by
    have e : Lib.split [] [46] = [[]] := by simp [Lib.split, Lib.count_one, Lib.splitK]
    rw [e]
    refine ⟨by simp [scanB, pieceB], fun p r h => ?_⟩
    cases h
    simp [scanB]
  | c :: l => by
    obtain ⟨ih1, ih2⟩ := scan_pieces l
    by_cases h : c = 46
    · subst h
      rw [split_eq]
      refine ⟨by simp [scanB, pieceB], fun p r h => ?_⟩
      cases h
      simp [scanB, ih1]
    · obtain ⟨p, r, e⟩ := split_some l
      rw [split_ne c l h, e]
      have hf := ih2 p r e
      refine ⟨?_, fun p' r' h' => ?_⟩
      · simp [scanB, h, hf, consHead, pieceB, Bool.and_assoc]
      · cases h'
        simp [scanB, h, hf, Bool.and_assoc]
end Go.Proofs.YtijdghplfhfpaaaDoor.H
