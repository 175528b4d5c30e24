/- Patterns: the reference's inside, matched, MatchOf: the walks. -/
import Derived.Test.YtioemcfadniokaaGlobO
import Derived.Test.YtioemcfadniokaaShelf
import Derived.Lib.IndexMore
namespace Go.Proofs.Ytioemcfadniokaa.H
open Go.RowKit Go.Proofs.YtioemcfadniokaaW.PrintWords Go.Proofs.YtioemcfadniokaaW.PrintLast Go.Proofs.YtioemcfadniokaaW.PrintMore Go.Proofs.Ytioemcfadniokaa.U
set_option linter.unusedVariables false
set_option linter.unusedSimpArgs false
def insideV (s p : ByteArray) : Bool := Lib.contains s.data.toList p.data.toList
theorem slice_occ (s p : ByteArray) (k : Nat) (h : k + p.size ≤ s.size) : ((s.extract k (k + p.size)).toList == p.toList) = Lib.occAt s.data.toList p.data.toList k := by
  rw [Lib.occAt_iff_take _ _ _ (by simpa using h), ByteArray.toList_eq, ByteArray.toList_eq, ByteArray.data_extract, Array.toList_extract, List.extract_eq_take_drop]
  simp
theorem inside_yes {s p : ByteArray} (k : Nat) (h : k + p.size ≤ s.size) (he : ((s.extract k (k + p.size)).toList == p.toList) = true) : insideV s p = true := by
  rw [slice_occ s p k h] at he
  rw [insideV, Lib.contains, decide_eq_true_eq]
  rcases Lib.index_spec s.data.toList p.data.toList with ⟨_, hn⟩ | ⟨i, hi, _⟩
  · rw [hn k (by simp; omega)] at he; cases he
  · rw [hi]; omega
theorem inside_no {s p : ByteArray} (hn : ∀ k, k + p.size ≤ s.size → ((s.extract k (k + p.size)).toList == p.toList) = false) : insideV s p = false := by
  rw [insideV, Lib.contains, decide_eq_false_iff_not, Lib.index_none]
  · omega
  · intro j hj
    rw [Bool.eq_false_iff]
    intro ho
    have hroom : j + p.size ≤ s.size := by
      rcases Lib.occAt_room ho with h | h
      · simpa using h
      · have : p.size = 0 := by have := congrArg List.length h; simpa using this
        simp at hj; omega
    have := hn j hroom
    rw [slice_occ s p j hroom, ho] at this
    cases this
set_option maxHeartbeats 1000000 in
set_option maxRecDepth 100000 in
theorem inside_calls (s p : ByteArray) (w : World) (hs : s.size ≤ 1048576) (hp : p.size ≤ 1048576) : Calls Try.prog 62 #[.string s, .string p] w fun e w' => e = .returned (.bool (insideV s p)) ∧ w = w' := by
  have hy := fun k h he => inside_yes (s := s) (p := p) k h he
  have hn := fun h => inside_no (s := s) (p := p) h
  generalize insideV s p = r at *
  have HR := Lib.hid (And.intro hy hn)
  clear hy hn
  go_enter Try.func62, Try.ntmps62
  go_wp2
  go_loopw [4, 5] (fun _ vi wr => ∃ k : Nat, k ≤ s.size + 1 ∧ vi = .int .i64 k ∧ Hid (∀ j, j < k → j + p.size ≤ s.size → ((s.extract j (j + p.size)).toList == p.toList) = false) ∧ w = wr) (fun _ vi _ => s.size + 1 - (intOf vi).toNat)
  case atStart => exact ⟨0, Nat.zero_le _, rfl, Lib.hid (fun j h => absurd h (Nat.not_lt_zero _)), rfl⟩
  case round =>
    obtain ⟨k, hk, rfl, hne, rfl⟩ := hrel
    by_cases hle : k + p.size ≤ s.size
    · have i1 : (k : Int) + p.size ≤ s.size := by omega
      have i0 : (0 : Int) ≤ k := by omega
      cases hq : (s.extract k (k + p.size)).toList == p.toList with
      | true =>
        obtain rfl := HR.out.1 k hle hq
        go_wp2
        go_ret
        exact ⟨(by first | rfl | (simp; done) | (simp [*]; done) | (rw [if_pos (by omega)]; first | rfl | (simp; done)) | (rw [if_neg (by omega)]; first | rfl | (simp; done)) | (simp; omega)), rfl⟩
      | false =>
        have hstep := Lib.hid (show ∀ j, j < k + 1 → j + p.size ≤ s.size → ((s.extract j (j + p.size)).toList == p.toList) = false from fun j h1 h2 => by
          rcases Nat.lt_or_ge j k with h' | h'
          · exact hne.out j h' h2
          · obtain rfl : j = k := by omega
            exact hq)
        go_wp2
        go_roundw
        case rel => exact ⟨k + 1, by omega, by go_num, hstep, by trivial⟩
        case measure => simp [intOf]; omega
    · have i1 : ¬ (k : Int) + p.size ≤ s.size := by omega
      obtain rfl := HR.out.2 (fun j hj => hne.out j (by omega) hj)
      go_wp2
      go_ret
      exact ⟨(by first | rfl | (simp; done) | (simp [*]; done) | (rw [if_pos (by omega)]; first | rfl | (simp; done)) | (rw [if_neg (by omega)]; first | rfl | (simp; done)) | (simp; omega)), rfl⟩
noncomputable def matchB (k : Int) (a b : ByteArray) : Bool := if k = 1 then a.toList == b.toList else if k = 2 then insideV a b else fitsV (piecesOf (bytesOf b)) (bytesOf a)
noncomputable def matchV (k : Int) (s p : ByteArray) : Bool := if 1 ≤ k ∧ k ≤ 3 ∧ s.size ≤ 2000 ∧ p.size ≤ 100 then matchB k (lowS s) (lowS p) else false
def matchE (k : Int) (s p : ByteArray) : Int := if 1 ≤ k ∧ k ≤ 3 then if s.size ≤ 2000 ∧ p.size ≤ 100 then 0 else 1 else 2
theorem lowS_size (s : ByteArray) : (lowS s).size = s.size := by
  show (List.toArray _).size = _
  rw [List.size_toArray, List.length_map, List.length_map, bytesOf_length]
set_option maxHeartbeats 1000000 in
set_option maxRecDepth 100000 in
theorem matched_calls (k : Int) (s p : ByteArray) (w : World) (hs : s.size ≤ 2000) (hp : p.size ≤ 100) : Calls Try.prog 51 #[.int .i64 k, .string s, .string p] w fun e w' => e = .returned (.bool (matchB k (lowS s) (lowS p))) ∧ Below w.heap.size w w' := by
  have H1 := fun w => lower_calls s w (by omega)
  have H2 := fun w => lower_calls p w (by omega)
  have z1 := lowS_size s
  have z2 := lowS_size p
  generalize lowS s = a at *
  generalize lowS p = b at *
  have H3 := fun w => inside_calls a b w (by omega) (by omega)
  have H4 := fun w => fits_calls a b w (by omega) (by omega)
  have hv : matchB k a b = if k = 1 then a.toList == b.toList else if k = 2 then insideV a b else fitsV (piecesOf (bytesOf b)) (bytesOf a) := rfl
  rw [hv]
  clear hv
  generalize insideV a b = r3 at *
  generalize fitsV (piecesOf (bytesOf b)) (bytesOf a) = r4 at *
  have H1 := Lib.hid H1
  have H2 := Lib.hid H2
  have H3 := Lib.hid H3
  have H4 := Lib.hid H4
  rcases (by omega : k = 1 ∨ k = 2 ∨ (k ≠ 1 ∧ k ≠ 2)) with rfl | rfl | ⟨h1, h2⟩
  · rw [if_pos rfl]
    go_enter Try.func51, Try.ntmps51
    go_wp2_with fail
    refine (H1.out _).mono ?_
    rintro e w1 ⟨rfl, hb1⟩
    have hz1 := hb1.size
    go_wp2_with fail
    refine (H2.out _).mono ?_
    rintro e w2 ⟨rfl, hb2⟩
    go_wp2_with fail
    go_ret
    exact ⟨(by first | rfl | (simp; done) | (simp [*]; done) | (rw [if_pos (by omega)]; first | rfl | (simp; done)) | (rw [if_neg (by omega)]; first | rfl | (simp; done)) | (simp; omega)), (by repeat (first | exact Below.refl _ _ | apply below_alloc | apply pw_below_drewN | apply below_drew1 | (refine Below.setCell ?_ (by first | (simp; done) | (simp; omega) | omega) _) | (refine below_then ?_ (by first | (simp; done) | (simp; omega) | omega) hb2) | (refine below_then ?_ (by first | (simp; done) | (simp; omega) | omega) hb1)))⟩
  · rw [if_neg (by decide), if_pos rfl]
    go_enter Try.func51, Try.ntmps51
    go_wp2_with fail
    refine (H1.out _).mono ?_
    rintro e w1 ⟨rfl, hb1⟩
    have hz1 := hb1.size
    go_wp2_with fail
    refine (H2.out _).mono ?_
    rintro e w2 ⟨rfl, hb2⟩
    go_wp2_with fail
    refine (H3.out _).mono ?_
    rintro e w3 ⟨rfl, rfl⟩
    go_wp2_with fail
    go_ret
    exact ⟨(by first | rfl | (simp; done) | (simp [*]; done) | (rw [if_pos (by omega)]; first | rfl | (simp; done)) | (rw [if_neg (by omega)]; first | rfl | (simp; done)) | (simp; omega)), (by repeat (first | exact Below.refl _ _ | apply below_alloc | apply pw_below_drewN | apply below_drew1 | (refine Below.setCell ?_ (by first | (simp; done) | (simp; omega) | omega) _) | (refine below_then ?_ (by first | (simp; done) | (simp; omega) | omega) hb2) | (refine below_then ?_ (by first | (simp; done) | (simp; omega) | omega) hb1)))⟩
  · rw [if_neg h1, if_neg h2]
    have e1 : (k == 1) = false := by rw [beq_eq_false_iff_ne]; exact h1
    have e2 : (k == 2) = false := by rw [beq_eq_false_iff_ne]; exact h2
    go_enter Try.func51, Try.ntmps51
    go_wp2_with fail
    refine (H1.out _).mono ?_
    rintro e w1 ⟨rfl, hb1⟩
    have hz1 := hb1.size
    go_wp2_with fail
    refine (H2.out _).mono ?_
    rintro e w2 ⟨rfl, hb2⟩
    have hz2 := hb2.size
    go_wp2_with fail
    refine (H4.out _).mono ?_
    rintro e w3 ⟨rfl, hb3⟩
    go_wp2_with fail
    go_ret
    exact ⟨(by first | rfl | (simp; done) | (simp [*]; done) | (rw [if_pos (by omega)]; first | rfl | (simp; done)) | (rw [if_neg (by omega)]; first | rfl | (simp; done)) | (simp; omega)), (by repeat (first | exact Below.refl _ _ | apply below_alloc | apply pw_below_drewN | apply below_drew1 | (refine Below.setCell ?_ (by first | (simp; done) | (simp; omega) | omega) _) | (refine below_then ?_ (by first | (simp; done) | (simp; omega) | omega) hb3) | (refine below_then ?_ (by first | (simp; done) | (simp; omega) | omega) hb2) | (refine below_then ?_ (by first | (simp; done) | (simp; omega) | omega) hb1)))⟩
set_option maxHeartbeats 1000000 in
set_option maxRecDepth 100000 in
theorem matchOf_calls (k : Int) (s p : ByteArray) (w : World) : Calls Try.prog 31 #[.int .i64 k, .string s, .string p] w fun e w' => e = .returned (.tuple #[.bool (matchV k s p), .int .i64 (matchE k s p)]) ∧ Below w.heap.size w w' := by
  have HM := fun w h1 h2 => matched_calls k s p w h1 h2
  unfold matchV matchE
  generalize matchB k (lowS s) (lowS p) = r at *
  have HM := Lib.hid HM
  rcases (by omega : ¬ (1 ≤ k ∧ k ≤ 3) ∨ (1 ≤ k ∧ k ≤ 3 ∧ 2000 < s.size) ∨ (1 ≤ k ∧ k ≤ 3 ∧ s.size ≤ 2000 ∧ 100 < p.size) ∨ (1 ≤ k ∧ k ≤ 3 ∧ s.size ≤ 2000 ∧ p.size ≤ 100)) with h | ⟨h1, h2, h3⟩ | ⟨h1, h2, h3, h4⟩ | ⟨h1, h2, h3, h4⟩
  · rw [if_neg (by omega), if_neg h]
    go_enter Try.func31, Try.ntmps31
    go_wp2_with ((go_at_call 32; first | (refine (in_yes _ _ _ _ (by omega) (by omega)).mono ?_; rintro e w' ⟨rfl, rfl⟩) | (refine (in_no _ _ _ _ (by omega)).mono ?_; rintro e w' ⟨rfl, rfl⟩)))
    refine bodyPost_ret (v := .tuple #[.bool false, .int .i64 2]) (by simp [results, Try.results31, go_sem, *]) rfl ⟨rfl, (by repeat (first | exact Below.refl _ _ | apply below_alloc | apply pw_below_drewN | apply below_drew1 | (refine Below.setCell ?_ (by first | (simp; done) | (simp; omega) | omega) _) ))⟩
  · rw [if_neg (by omega), if_pos ⟨h1, h2⟩, if_neg (by omega)]
    have i1 : (2000 : Int) < s.size := by omega
    go_enter Try.func31, Try.ntmps31
    go_wp2_with ((go_at_call 32; first | (refine (in_yes _ _ _ _ (by omega) (by omega)).mono ?_; rintro e w' ⟨rfl, rfl⟩) | (refine (in_no _ _ _ _ (by omega)).mono ?_; rintro e w' ⟨rfl, rfl⟩)))
    refine bodyPost_ret (v := .tuple #[.bool false, .int .i64 1]) (by simp [results, Try.results31, go_sem, *]) rfl ⟨rfl, (by repeat (first | exact Below.refl _ _ | apply below_alloc | apply pw_below_drewN | apply below_drew1 | (refine Below.setCell ?_ (by first | (simp; done) | (simp; omega) | omega) _) ))⟩
  · rw [if_neg (by omega), if_pos ⟨h1, h2⟩, if_neg (by omega)]
    have i1 : ¬ (2000 : Int) < s.size := by omega
    have i2 : (100 : Int) < p.size := by omega
    go_enter Try.func31, Try.ntmps31
    go_wp2_with ((go_at_call 32; first | (refine (in_yes _ _ _ _ (by omega) (by omega)).mono ?_; rintro e w' ⟨rfl, rfl⟩) | (refine (in_no _ _ _ _ (by omega)).mono ?_; rintro e w' ⟨rfl, rfl⟩)))
    refine bodyPost_ret (v := .tuple #[.bool false, .int .i64 1]) (by simp [results, Try.results31, go_sem, *]) rfl ⟨rfl, (by repeat (first | exact Below.refl _ _ | apply below_alloc | apply pw_below_drewN | apply below_drew1 | (refine Below.setCell ?_ (by first | (simp; done) | (simp; omega) | omega) _) ))⟩
  · rw [if_pos ⟨h1, h2, h3, h4⟩, if_pos ⟨h1, h2⟩, if_pos ⟨h3, h4⟩]
    have i1 : ¬ (2000 : Int) < s.size := by omega
    have i2 : ¬ (100 : Int) < p.size := by omega
    go_enter Try.func31, Try.ntmps31
    go_wp2_with ((go_at_call 32; first | (refine (in_yes _ _ _ _ (by omega) (by omega)).mono ?_; rintro e w' ⟨rfl, rfl⟩) | (refine (in_no _ _ _ _ (by omega)).mono ?_; rintro e w' ⟨rfl, rfl⟩)))
    refine (HM.out _ h3 h4).mono ?_
    rintro e w1 ⟨rfl, hb1⟩
    go_wp2_with fail
    refine bodyPost_ret (v := .tuple #[.bool r, .int .i64 0]) (by simp [results, Try.results31, go_sem, *]) rfl ⟨rfl, (by repeat (first | exact Below.refl _ _ | apply below_alloc | apply pw_below_drewN | apply below_drew1 | (refine Below.setCell ?_ (by first | (simp; done) | (simp; omega) | omega) _) | (refine below_then ?_ (by first | (simp; done) | (simp; omega) | omega) hb1)))⟩
end Go.Proofs.Ytioemcfadniokaa.H
