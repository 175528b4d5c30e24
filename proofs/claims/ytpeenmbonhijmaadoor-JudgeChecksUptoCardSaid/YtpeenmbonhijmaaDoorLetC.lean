/- Letters: line ends: the reference's walk. -/
import Derived.Test.YtpeenmbonhijmaaDoorLetB
namespace Go.Proofs.YtpeenmbonhijmaaDoor.H
open Go.RowKit Go.Proofs.YtpeenmbonhijmaaDoorW.PrintWords Go.Proofs.YtpeenmbonhijmaaDoorW.PrintLast Go.Proofs.YtpeenmbonhijmaaDoorW.PrintMore Go.Proofs.YtpeenmbonhijmaaDoor.U
set_option linter.unusedVariables false
set_option linter.unusedSimpArgs false
abbrev crlf : List UInt8 := [13, 10]
/-- Where the first line ends from a place on; -1: nowhere. -/
def lineV (s : ByteArray) (i : Nat) : Int := if Lib.index (s.data.toList.drop i) crlf < 0 then -1 else i + Lib.index (s.data.toList.drop i) crlf
theorem occ_two (l : List UInt8) (k : Nat) (h : k + 1 < l.length) : Lib.occAt l crlf k = (l[k] == 13 && l[k + 1] == 10) := by
  rw [Lib.occAt, List.drop_eq_getElem_cons (by omega : k < l.length), List.drop_eq_getElem_cons h]
  simp only [crlf, List.isPrefixOf, Bool.and_true]
  rw [Bool.eq_iff_iff]; simp only [Bool.and_eq_true, beq_iff_eq]; exact ⟨fun ⟨a, b⟩ => ⟨a.symm, b.symm⟩, fun ⟨a, b⟩ => ⟨a.symm, b.symm⟩⟩
theorem occ_end (l : List UInt8) (k : Nat) (h : l.length ≤ k + 1) : Lib.occAt l crlf k = false := by
  rw [Lib.occAt]
  rcases Nat.lt_or_ge k l.length with h1 | h1
  · rw [List.drop_eq_getElem_cons h1, List.drop_eq_nil_of_le h]
    simp [crlf, List.isPrefixOf]
  · rw [List.drop_eq_nil_of_le h1]; rfl
theorem occ_drop (l : List UInt8) (i j : Nat) : Lib.occAt (l.drop i) crlf j = Lib.occAt l crlf (i + j) := by
  rw [Lib.occAt, Lib.occAt, List.drop_drop]
theorem lineV_first {s : ByteArray} {i k : Nat} (hik : i ≤ k) (hk : k + 1 < s.size) (ho : Lib.occAt s.data.toList crlf k = true) (hn : ∀ j, i ≤ j → j < k → Lib.occAt s.data.toList crlf j = false) : lineV s i = k := by
  have := Lib.index_first (s := s.data.toList.drop i) (sub := crlf) (i := k - i) (by simp; omega) (by rw [occ_drop, show i + (k - i) = k by omega]; exact ho) (fun j hj => by rw [occ_drop]; exact hn _ (by omega) (by omega))
  rw [lineV, this, if_neg (by omega)]; omega
theorem lineV_none {s : ByteArray} {i : Nat} (hn : ∀ j, i ≤ j → j + 1 < s.size → Lib.occAt s.data.toList crlf j = false) : lineV s i = -1 := by
  have := Lib.index_none (s := s.data.toList.drop i) (sub := crlf) (fun j hj => by
    rw [occ_drop]
    rcases Nat.lt_or_ge (i + j + 1) s.size with h | h
    · exact hn _ (by omega) h
    · exact occ_end _ _ (by simpa using h))
  rw [lineV, this]; rfl
theorem occ_at (s : ByteArray) (k : Nat) (h : k + 1 < s.size) : Lib.occAt s.data.toList crlf k = (decide (s[k].toNat = 13) && decide (s[k + 1].toNat = 10)) := by
  rw [occ_two _ _ (by simpa using h), Array.getElem_toList, Array.getElem_toList]
  rw [Bool.eq_iff_iff]
  simp only [Bool.and_eq_true, beq_iff_eq, decide_eq_true_eq, ← UInt8.toNat_inj]
  exact Iff.rfl
set_option maxHeartbeats 1000000 in
set_option maxRecDepth 100000 in
theorem lineEnd_calls (s : ByteArray) (i : Nat) (w : World) (hs : s.size ≤ 9223372036854775800) (hi : i ≤ 9223372036854775800) : Calls Tryd.prog 67 #[.string s, .int .i64 i] w fun e w' => e = .returned (.int .i64 (lineV s i)) ∧ w = w' := by
  have hf := fun k (h1 : i ≤ k) h2 h3 h4 => lineV_first (s := s) (i := i) (k := k) h1 h2 h3 h4
  have hn := fun h => lineV_none (s := s) (i := i) h
  have ho := fun k h => occ_at s k h
  generalize lineV s i = r at *
  generalize Lib.occAt s.data.toList crlf = oc at *
  have HR := Lib.hid (And.intro hf (And.intro hn ho))
  clear hf hn ho
  go_enter Tryd.func67, Tryd.ntmps67
  go_wp2
  go_loopw [4, 5] (fun _ v wr => ∃ k : Nat, i ≤ k ∧ (k ≤ i ∨ k ≤ s.size) ∧ v = .int .i64 k ∧ (∀ j, i ≤ j → j < k → oc j = false) ∧ w = wr) (fun _ v _ => s.size - (intOf v).toNat)
  case atStart => exact ⟨i, Nat.le_refl _, .inl (Nat.le_refl _), rfl, fun j h1 h2 => by omega, rfl⟩
  case round =>
    obtain ⟨k, hik, hk, rfl, hne, rfl⟩ := hrel
    have hne := Lib.hid hne
    by_cases hlt : k + 1 < s.size
    · have hlt0 : k < s.size := by omega
      have c0 := s[k].toNat_lt
      have c1 := s[k + 1].toNat_lt
      have hb1 : (k : Int) + 1 < s.size := by omega
      have hok := HR.out.2.2 k hlt
      have hfk := fun h => HR.out.1 k hik hlt h hne.out
      have hstep : oc k = false → ∀ j, i ≤ j → j < k + 1 → oc j = false := fun h j h1 h2 => by
        rcases Nat.lt_or_ge j k with h' | h'
        · exact hne.out j h1 h'
        · obtain rfl : j = k := by omega
          exact h
      rw [hok] at hfk hstep
      have hfk := Lib.hid hfk
      have hstep := Lib.hid hstep
      clear hok
      rcases (by omega : (s[k].toNat = 13 ∧ s[k + 1].toNat = 10) ∨ s[k].toNat ≠ 13 ∨ (s[k].toNat = 13 ∧ s[k + 1].toNat ≠ 10)) with ⟨h1, h2⟩ | h1 | ⟨h1, h2⟩
      · obtain rfl := hfk.out (by simp [h1, h2])
        go_wp2
        go_ret
        exact ⟨(by first | rfl | (simp; done) | (simp [*]; done) | (rw [if_pos (by omega)]; first | rfl | (simp; done)) | (rw [if_neg (by omega)]; first | rfl | (simp; done)) | (simp; omega)), rfl⟩
      · have e1 : ((s[k].toNat : Int) == 13) = false := by rw [beq_eq_false_iff_ne]; omega
        have hstep := hstep.out (by simp [h1])
        go_wp2
        go_roundw
        case rel => exact ⟨k + 1, by omega, by omega, by go_num, hstep, by trivial⟩
        case measure => simp [intOf]; omega
      · have e2 : ((s[k + 1].toNat : Int) == 10) = false := by rw [beq_eq_false_iff_ne]; omega
        have hstep := hstep.out (by simp [h2])
        go_wp2
        go_roundw
        case rel => exact ⟨k + 1, by omega, by omega, by go_num, hstep, by trivial⟩
        case measure => simp [intOf]; omega
    · have hb1 : ¬ (k : Int) + 1 < s.size := by omega
      obtain rfl := HR.out.2.1 (fun j h1 h2 => hne.out j h1 (by omega))
      go_wp2
      go_ret
      exact ⟨(by first | rfl | (simp; done) | (simp [*]; done) | (rw [if_pos (by omega)]; first | rfl | (simp; done)) | (rw [if_neg (by omega)]; first | rfl | (simp; done)) | (simp; omega)), rfl⟩
end Go.Proofs.YtpeenmbonhijmaaDoor.H
