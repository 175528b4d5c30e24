/- token.Check and the reference's TokenFault. -/
import Derived.Test.YtpeenmbonhijmaaDoorTokA
import Derived.Test.YtpeenmbonhijmaaDoorShelf
import Derived.Lib.SlicesS
namespace Go.Proofs.YtpeenmbonhijmaaDoor.H
open Go.RowKit Go.Proofs.YtpeenmbonhijmaaDoorW.PrintWords Go.Proofs.YtpeenmbonhijmaaDoorW.PrintLast Go.Proofs.YtpeenmbonhijmaaDoorW.PrintMore Go.Proofs.YtpeenmbonhijmaaDoor.U
set_option linter.unusedVariables false
set_option linter.unusedSimpArgs false
def headB (p : Int → Bool) (s : ByteArray) : Bool := if h : 0 < s.size then p s[0].toNat else false
def tokFault (k : Int) (s : ByteArray) (n : Int) : Int :=
  if k < 1 ∨ 5 < k then 2
  else if k = 3 then (if n < 0 ∨ 2147483647 < n then 6 else if s.size = 0 then 0 else 3)
  else if n = 0 ∧ (k = 5 → s.size = 1 ∧ headB markB s = true) ∧ (k = 1 ∨ k = 2 → headB letterB s = true ∧ spanEnd wordB s 0 = s.size) then 0 else 3
theorem extract_all {s : ByteArray} : s.extract 0 s.size = s := by simp
theorem extract_iff (s : ByteArray) (n : Nat) (h : n ≤ s.size) : s.extract 0 n = s ↔ n = s.size := by
  constructor
  · intro e
    have := congrArg ByteArray.size e
    simp at this; omega
  · intro e; rw [e]; simp
theorem mark_index (c : UInt8) : decide (0 ≤ Lib.indexByte [123, 125, 40, 41, 91, 93, 59, 44] c) = markB c.toNat := by
  have h : ∀ x : Fin 256, decide (0 ≤ Lib.indexByte [123, 125, 40, 41, 91, 93, 59, 44] (UInt8.ofNat x)) = markB (UInt8.ofNat x).toNat := by decide +kernel
  have := h ⟨c.toNat, c.toNat_lt⟩
  simpa using this
/-- A text of one byte. -/
theorem one_byte {s : ByteArray} (h : s.size = 1) : ∃ c : UInt8, s = ⟨#[c]⟩ := by
  obtain ⟨⟨l⟩⟩ := s
  match l, h with
  | [c], _ => exact ⟨c, rfl⟩
set_option maxHeartbeats 1000000 in
set_option maxRecDepth 100000 in
theorem check_num (k : Int) (s : ByteArray) (n : Int) (w : World) (hk : k = 3) (hs : s.size ≤ 9223372036854775806) :
    Calls Tryd.prog 81 #[.agg #[.int .i64 k, .string s, .int .i64 n]] w fun e w' => e = .returned (.int .i64 (tokFault k s n)) ∧ Below w.heap.size w w' := by
  subst hk
  have hz : s.size = 0 → s = ⟨#[]⟩ := fun h => by obtain ⟨⟨l⟩⟩ := s; have : l = [] := List.length_eq_zero_iff.1 h; rw [this]
  have hnz : s.size ≠ 0 → s ≠ ⟨#[]⟩ := fun h e => h (by rw [e]; rfl)
  rcases (by omega : n < 0 ∨ 2147483647 < n ∨ (0 ≤ n ∧ n ≤ 2147483647 ∧ s.size = 0) ∨ (0 ≤ n ∧ n ≤ 2147483647 ∧ s.size ≠ 0)) with h | h | ⟨h, h2, h3⟩ | ⟨h, h2, h3⟩
  · rw [show tokFault 3 s n = 6 by simp [tokFault]; omega]
    clear hz hnz
    go_enter Tryd.func81, Tryd.ntmps81
    go_wp2
    go_ret
    exact ⟨(by first | rfl | (simp; done) | (simp [*]; done) | (rw [if_pos (by omega)]; first | rfl | (simp; done)) | (rw [if_neg (by omega)]; first | rfl | (simp; done)) | (simp; omega)), (by repeat (first | exact Below.refl _ _ | apply below_alloc | apply pw_below_drewN | apply below_drew1 | (refine Below.setCell ?_ (by first | (simp; done) | (simp; omega) | omega) _) ))⟩
  · rw [show tokFault 3 s n = 6 by simp [tokFault]; omega]
    clear hz hnz
    go_enter Tryd.func81, Tryd.ntmps81
    go_wp2
    go_ret
    exact ⟨(by first | rfl | (simp; done) | (simp [*]; done) | (rw [if_pos (by omega)]; first | rfl | (simp; done)) | (rw [if_neg (by omega)]; first | rfl | (simp; done)) | (simp; omega)), (by repeat (first | exact Below.refl _ _ | apply below_alloc | apply pw_below_drewN | apply below_drew1 | (refine Below.setCell ?_ (by first | (simp; done) | (simp; omega) | omega) _) ))⟩
  · rw [show tokFault 3 s n = 0 by simp [tokFault, h3]; omega]
    have q := lit_yes (l := []) (hz h3)
    clear hz hnz
    go_enter Tryd.func81, Tryd.ntmps81
    go_wp2
    go_ret
    exact ⟨(by first | rfl | (simp; done) | (simp [*]; done) | (rw [if_pos (by omega)]; first | rfl | (simp; done)) | (rw [if_neg (by omega)]; first | rfl | (simp; done)) | (simp; omega)), (by repeat (first | exact Below.refl _ _ | apply below_alloc | apply pw_below_drewN | apply below_drew1 | (refine Below.setCell ?_ (by first | (simp; done) | (simp; omega) | omega) _) ))⟩
  · rw [show tokFault 3 s n = 3 by simp [tokFault, h3]; omega]
    have q := lit_no (l := []) (hnz h3)
    clear hz hnz
    go_enter Tryd.func81, Tryd.ntmps81
    go_wp2
    go_ret
    exact ⟨(by first | rfl | (simp; done) | (simp [*]; done) | (rw [if_pos (by omega)]; first | rfl | (simp; done)) | (rw [if_neg (by omega)]; first | rfl | (simp; done)) | (simp; omega)), (by repeat (first | exact Below.refl _ _ | apply below_alloc | apply pw_below_drewN | apply below_drew1 | (refine Below.setCell ?_ (by first | (simp; done) | (simp; omega) | omega) _) ))⟩
theorem contains_marks (s : ByteArray) (h : s.size = 1) (w : World) : Calls Tryd.prog 72 #[.string ⟨#[123, 125, 40, 41, 91, 93, 59, 44]⟩, .string s] w fun e w' => e = .returned (.bool (headB markB s)) ∧ w' = w := by
  obtain ⟨c, rfl⟩ := one_byte h
  refine (Tryd.strings_Contains_one _ c w).mono fun e w' ⟨he, hw⟩ => ⟨?_, hw⟩
  rw [he, mark_index]; rfl
set_option maxHeartbeats 1000000 in
set_option maxRecDepth 100000 in
theorem check_mark (k : Int) (s : ByteArray) (n : Int) (w : World) (hk : k = 5) (hs : s.size ≤ 9223372036854775806) :
    Calls Tryd.prog 81 #[.agg #[.int .i64 k, .string s, .int .i64 n]] w fun e w' => e = .returned (.int .i64 (tokFault k s n)) ∧ Below w.heap.size w w' := by
  subst hk
  rcases (by by_cases e : s.size = 1 <;> by_cases e2 : n = 0 <;> cases h : headB markB s <;> simp [e, e2] : s.size ≠ 1 ∨ (s.size = 1 ∧ headB markB s = false) ∨ (s.size = 1 ∧ headB markB s = true ∧ n ≠ 0) ∨ (s.size = 1 ∧ headB markB s = true ∧ n = 0)) with h | ⟨h, h2⟩ | ⟨h, h2, h3⟩ | ⟨h, h2, h3⟩
  · rw [show tokFault 5 s n = 3 by simp [tokFault, h]]
    go_enter Tryd.func81, Tryd.ntmps81
    go_wp2
    go_ret
    exact ⟨(by first | rfl | (simp; done) | (simp [*]; done) | (rw [if_pos (by omega)]; first | rfl | (simp; done)) | (rw [if_neg (by omega)]; first | rfl | (simp; done)) | (simp; omega)), (by repeat (first | exact Below.refl _ _ | apply below_alloc | apply pw_below_drewN | apply below_drew1 | (refine Below.setCell ?_ (by first | (simp; done) | (simp; omega) | omega) _) ))⟩
  · rw [show tokFault 5 s n = 3 by simp [tokFault, h2]]
    have HC := fun w => contains_marks s h w
    rw [h2] at HC
    have HC := Lib.hid HC
    clear h2
    go_enter Tryd.func81, Tryd.ntmps81
    go_wp2_with (go_at_call 72; refine (HC.out _).mono ?_; rintro e w2 ⟨rfl, rfl⟩)
    go_ret
    exact ⟨(by first | rfl | (simp; done) | (simp [*]; done) | (rw [if_pos (by omega)]; first | rfl | (simp; done)) | (rw [if_neg (by omega)]; first | rfl | (simp; done)) | (simp; omega)), (by repeat (first | exact Below.refl _ _ | apply below_alloc | apply pw_below_drewN | apply below_drew1 | (refine Below.setCell ?_ (by first | (simp; done) | (simp; omega) | omega) _) ))⟩
  · rw [show tokFault 5 s n = 3 by simp [tokFault, h3]]
    have HC := fun w => contains_marks s h w
    rw [h2] at HC
    have HC := Lib.hid HC
    clear h2
    go_enter Tryd.func81, Tryd.ntmps81
    go_wp2_with (go_at_call 72; refine (HC.out _).mono ?_; rintro e w2 ⟨rfl, rfl⟩)
    go_ret
    exact ⟨(by first | rfl | (simp; done) | (simp [*]; done) | (rw [if_pos (by omega)]; first | rfl | (simp; done)) | (rw [if_neg (by omega)]; first | rfl | (simp; done)) | (simp; omega)), (by repeat (first | exact Below.refl _ _ | apply below_alloc | apply pw_below_drewN | apply below_drew1 | (refine Below.setCell ?_ (by first | (simp; done) | (simp; omega) | omega) _) ))⟩
  · rw [show tokFault 5 s n = 0 by simp [tokFault, h, h2, h3]]
    subst h3
    have HC := fun w => contains_marks s h w
    rw [h2] at HC
    have HC := Lib.hid HC
    clear h2
    go_enter Tryd.func81, Tryd.ntmps81
    go_wp2_with (go_at_call 72; refine (HC.out _).mono ?_; rintro e w2 ⟨rfl, rfl⟩)
    go_ret
    exact ⟨(by first | rfl | (simp; done) | (simp [*]; done) | (rw [if_pos (by omega)]; first | rfl | (simp; done)) | (rw [if_neg (by omega)]; first | rfl | (simp; done)) | (simp; omega)), (by repeat (first | exact Below.refl _ _ | apply below_alloc | apply pw_below_drewN | apply below_drew1 | (refine Below.setCell ?_ (by first | (simp; done) | (simp; omega) | omega) _) ))⟩
set_option maxHeartbeats 1000000 in
set_option maxRecDepth 100000 in
theorem check_text (k : Int) (s : ByteArray) (n : Int) (w : World) (hk : k = 4) :
    Calls Tryd.prog 81 #[.agg #[.int .i64 k, .string s, .int .i64 n]] w fun e w' => e = .returned (.int .i64 (tokFault k s n)) ∧ Below w.heap.size w w' := by
  subst hk
  by_cases h : n = 0
  · rw [show tokFault 4 s n = 0 by simp [tokFault, h]]
    subst h
    go_enter Tryd.func81, Tryd.ntmps81
    go_wp2
    go_ret
    exact ⟨(by first | rfl | (simp; done) | (simp [*]; done) | (rw [if_pos (by omega)]; first | rfl | (simp; done)) | (rw [if_neg (by omega)]; first | rfl | (simp; done)) | (simp; omega)), (by repeat (first | exact Below.refl _ _ | apply below_alloc | apply pw_below_drewN | apply below_drew1 | (refine Below.setCell ?_ (by first | (simp; done) | (simp; omega) | omega) _) ))⟩
  · rw [show tokFault 4 s n = 3 by simp [tokFault, h]]
    go_enter Tryd.func81, Tryd.ntmps81
    go_wp2
    go_ret
    exact ⟨(by first | rfl | (simp; done) | (simp [*]; done) | (rw [if_pos (by omega)]; first | rfl | (simp; done)) | (rw [if_neg (by omega)]; first | rfl | (simp; done)) | (simp; omega)), (by repeat (first | exact Below.refl _ _ | apply below_alloc | apply pw_below_drewN | apply below_drew1 | (refine Below.setCell ?_ (by first | (simp; done) | (simp; omega) | omega) _) ))⟩
set_option maxHeartbeats 1000000 in
set_option maxRecDepth 100000 in
theorem check_else (k : Int) (s : ByteArray) (n : Int) (w : World) (hk : k < 1 ∨ 5 < k) :
    Calls Tryd.prog 81 #[.agg #[.int .i64 k, .string s, .int .i64 n]] w fun e w' => e = .returned (.int .i64 (tokFault k s n)) ∧ Below w.heap.size w w' := by
  rw [show tokFault k s n = 2 by simp [tokFault, hk]]
  have k1 : k ≠ 1 := by omega
  have k2 : k ≠ 2 := by omega
  have k3 : k ≠ 3 := by omega
  have k4 : k ≠ 4 := by omega
  have k5 : k ≠ 5 := by omega
  go_enter Tryd.func81, Tryd.ntmps81
  go_wp2
  go_ret
  exact ⟨(by first | rfl | (simp; done) | (simp [*]; done) | (rw [if_pos (by omega)]; first | rfl | (simp; done)) | (rw [if_neg (by omega)]; first | rfl | (simp; done)) | (simp; omega)), (by repeat (first | exact Below.refl _ _ | apply below_alloc | apply pw_below_drewN | apply below_drew1 | (refine Below.setCell ?_ (by first | (simp; done) | (simp; omega) | omega) _) ))⟩
set_option maxHeartbeats 1000000 in
set_option maxRecDepth 100000 in
theorem word_calls (b : Nat) (s : ByteArray) (i : Nat) (w : World) (hc : Cur w b s i) (hi : i ≤ s.size) (hs : s.size ≤ 9223372036854775806) :
    Calls Tryd.prog 129 #[.pointer (some ⟨b, 0, none⟩)] w fun e w' => e = .returned (.string (s.extract i (spanEnd wordB s i))) ∧ Cur w' b s (spanEnd wordB s i) ∧ w.grownBy w' (some b) := by
  have HC := Lib.hid (fun w hc => spanWord_calls b s i w hc hi hs)
  generalize spanEnd wordB s i = E at *
  go_enter Tryd.func129, Tryd.ntmps129
  go_wp2_with fail
  refine (HC.out _ (by repeat (first | exact hc | apply Cur.drawN | apply Cur.drew | apply Cur.set))).mono ?_
  rintro e w1 ⟨rfl, hc1, hg1⟩
  go_wp2_with fail
  go_ret
  exact ⟨rfl, hc1, hg1⟩
set_option maxHeartbeats 1000000 in
set_option maxRecDepth 100000 in
theorem check_word (k : Int) (s : ByteArray) (n : Int) (w : World) (hk : k = 1 ∨ k = 2) (hs : s.size ≤ 9223372036854775806) :
    Calls Tryd.prog 81 #[.agg #[.int .i64 k, .string s, .int .i64 n]] w fun e w' => e = .returned (.int .i64 (tokFault k s n)) ∧ Below w.heap.size w w' := by
  have hE := spanEnd_le wordB s _ 0 rfl (Nat.zero_le _)
  have hx := extract_iff s (spanEnd wordB s 0) hE.2
  have HN := fun b w hc => next_calls b s 0 w hc (Nat.zero_le _) hs
  have HW := Lib.hid (fun b w hc => word_calls b s 0 w hc (Nat.zero_le _) hs)
  have hb : ∃ c : Int, (if h : 0 < s.size then (s[0].toNat : Int) else 0) = c ∧ 0 ≤ c ∧ c ≤ 255 ∧ letterB c = headB letterB s := by
    by_cases h : 0 < s.size
    · exact ⟨s[0].toNat, by rw [dif_pos h], by omega, by have := s[0].toNat_lt; omega, by rw [headB, dif_pos h]⟩
    · exact ⟨0, by rw [dif_neg h], by omega, by omega, by rw [headB, dif_neg h]; rfl⟩
  obtain ⟨c, hc, c0, c1, hl⟩ := hb
  have HN : ∀ b w, Cur w b s 0 → Calls Tryd.prog 128 #[.pointer (some ⟨b, 0, none⟩)] w fun e w' => e = .returned (.int .u8 c) ∧ ∃ n, w' = w.drewN n := fun b w h => (HN b w h).mono fun e w' ⟨he, hg⟩ => ⟨by rw [he, ← hc], hg⟩
  have HN := Lib.hid HN
  have HL := fun w => letter_calls c w c0 c1
  rw [hl] at HL
  clear hc hl
  rcases (by by_cases e : spanEnd wordB s 0 = s.size <;> by_cases e2 : n = 0 <;> cases h : headB letterB s <;> simp [e, e2] : headB letterB s = false ∨ (headB letterB s = true ∧ spanEnd wordB s 0 ≠ s.size) ∨ (headB letterB s = true ∧ spanEnd wordB s 0 = s.size ∧ n ≠ 0) ∨ (headB letterB s = true ∧ spanEnd wordB s 0 = s.size ∧ n = 0)) with h | ⟨h, h2⟩ | ⟨h, h2, h3⟩ | ⟨h, h2, h3⟩
  · rw [show tokFault k s n = 3 by rcases hk with rfl | rfl <;> simp [tokFault, h]]
    rw [h] at HL
    have HL := Lib.hid HL
    clear h hx hE HW
    rcases hk with rfl | rfl
    all_goals
      go_enter Tryd.func81, Tryd.ntmps81
      go_wp2
      have hC : ∀ k : Int, Cur ((w.alloc (.cells #[.int .i64 k, .string s, .int .i64 n] 124)).alloc (.cells #[.string s, .int .i64 0] 137)) (w.heap.size + 1) s 0 := fun k => by simpa using Cur.made (w.alloc (.cells #[.int .i64 k, .string s, .int .i64 n] 124)) s 0 137
      go_quiet (first | (go_at_call 128; exact Calls.quiet_of (HN.out _ _ (by repeat (first | exact hC _ | apply Cur.drawN | apply Cur.drew | apply Cur.set)))) | (go_at_call 127; exact quiet_eq (HL.out _)))
      go_wp2
      go_ret
      exact ⟨(by first | rfl | (simp; done) | (simp [*]; done) | (rw [if_pos (by omega)]; first | rfl | (simp; done)) | (rw [if_neg (by omega)]; first | rfl | (simp; done)) | (simp; omega)), (by repeat (first | exact Below.refl _ _ | apply below_alloc | apply pw_below_drewN | apply below_drew1 | (refine Below.setCell ?_ (by first | (simp; done) | (simp; omega) | omega) _) ))⟩
  · rw [show tokFault k s n = 3 by rcases hk with rfl | rfl <;> simp [tokFault, h, h2]]
    rw [h] at HL
    have HL := Lib.hid HL
    have hq := (Lib.bytes_beq_false_iff _ _).2 (fun e => h2 (hx.1 e))
    generalize hEE : spanEnd wordB s 0 = E at *
    clear h hx hE h2 hEE
    rcases hk with rfl | rfl
    all_goals
      go_enter Tryd.func81, Tryd.ntmps81
      go_wp2
      have hC : ∀ k : Int, Cur ((w.alloc (.cells #[.int .i64 k, .string s, .int .i64 n] 124)).alloc (.cells #[.string s, .int .i64 0] 137)) (w.heap.size + 1) s 0 := fun k => by simpa using Cur.made (w.alloc (.cells #[.int .i64 k, .string s, .int .i64 n] 124)) s 0 137
      go_region_held3 (fun w' => w'.cell? ⟨w.heap.size, 1, none⟩ = some (.string s))
        (first | go_keep | (rw [hc2 _ _ (by simp; omega)]; simp) | (rw [hc3 _ _ (by omega), hc2 _ _ (by simp; omega)]; simp))
        (first
          | (go_at_call 128; refine (HN.out _ _ (by repeat (first | exact hC _ | apply Cur.drawN | apply Cur.drew | apply Cur.set))).mono ?_; rintro e w2 ⟨rfl, hg2⟩; have hb2 := below_of_draws hg2; have hC2 := Cur.below (by repeat (first | exact hC _ | apply Cur.drawN | apply Cur.drew | apply Cur.set)) hb2 (by simp); obtain ⟨hc2, hf2⟩ := bcell hb2)
          | (go_at_call 127; refine (HL.out _).mono ?_; rintro e w3 ⟨rfl, rfl⟩)
          | (go_at_call 129; refine (HW.out _ _ (by repeat (first | exact hC2 | apply Cur.drawN | apply Cur.drew | apply Cur.set))).mono ?_; rintro e w4 ⟨rfl, hC4, hg4⟩; have hb4 := below_of_row (B := w.heap.size + 1) hg4 (by simp) (by have := hb2.size; simp at this ⊢; omega); obtain ⟨hc3, hf3⟩ := bcellB hb4; have k4 : w4.cell? ⟨w.heap.size, 2, none⟩ = some (.int .i64 n) := (by rw [hc3 _ _ (by omega), hc2 _ _ (by simp; omega)]; simp)))
      go_wp2
      go_ret
      exact ⟨(by first | rfl | (simp; done) | (simp [*]; done) | (rw [if_pos (by omega)]; first | rfl | (simp; done)) | (rw [if_neg (by omega)]; first | rfl | (simp; done)) | (simp; omega)), (by repeat (first | exact Below.refl _ _ | apply below_alloc | apply pw_below_drewN | apply below_drew1 | (refine Below.setCell ?_ (by first | (simp; done) | (simp; omega) | omega) _) | (refine Below.trans ?_ (Below.mono hb4 (by first | (simp; done) | (simp; omega) | omega))) | (refine below_then ?_ (by first | (simp; done) | (simp; omega) | omega) hb2)))⟩
  · rw [show tokFault k s n = 3 by rcases hk with rfl | rfl <;> simp [tokFault, h, h2, h3]]
    rw [h] at HL
    have HL := Lib.hid HL
    have hq := (Lib.bytes_beq_iff _ _).2 (hx.2 h2)
    generalize hEE : spanEnd wordB s 0 = E at *
    clear h hx hE h2 hEE
    rcases hk with rfl | rfl
    all_goals
      go_enter Tryd.func81, Tryd.ntmps81
      go_wp2
      have hC : ∀ k : Int, Cur ((w.alloc (.cells #[.int .i64 k, .string s, .int .i64 n] 124)).alloc (.cells #[.string s, .int .i64 0] 137)) (w.heap.size + 1) s 0 := fun k => by simpa using Cur.made (w.alloc (.cells #[.int .i64 k, .string s, .int .i64 n] 124)) s 0 137
      go_region_held3 (fun w' => w'.cell? ⟨w.heap.size, 1, none⟩ = some (.string s))
        (first | go_keep | (rw [hc2 _ _ (by simp; omega)]; simp) | (rw [hc3 _ _ (by omega), hc2 _ _ (by simp; omega)]; simp))
        (first
          | (go_at_call 128; refine (HN.out _ _ (by repeat (first | exact hC _ | apply Cur.drawN | apply Cur.drew | apply Cur.set))).mono ?_; rintro e w2 ⟨rfl, hg2⟩; have hb2 := below_of_draws hg2; have hC2 := Cur.below (by repeat (first | exact hC _ | apply Cur.drawN | apply Cur.drew | apply Cur.set)) hb2 (by simp); obtain ⟨hc2, hf2⟩ := bcell hb2)
          | (go_at_call 127; refine (HL.out _).mono ?_; rintro e w3 ⟨rfl, rfl⟩)
          | (go_at_call 129; refine (HW.out _ _ (by repeat (first | exact hC2 | apply Cur.drawN | apply Cur.drew | apply Cur.set))).mono ?_; rintro e w4 ⟨rfl, hC4, hg4⟩; have hb4 := below_of_row (B := w.heap.size + 1) hg4 (by simp) (by have := hb2.size; simp at this ⊢; omega); obtain ⟨hc3, hf3⟩ := bcellB hb4; have k4 : w4.cell? ⟨w.heap.size, 2, none⟩ = some (.int .i64 n) := (by rw [hc3 _ _ (by omega), hc2 _ _ (by simp; omega)]; simp)))
      go_wp2
      go_ret
      exact ⟨(by first | rfl | (simp; done) | (simp [*]; done) | (rw [if_pos (by omega)]; first | rfl | (simp; done)) | (rw [if_neg (by omega)]; first | rfl | (simp; done)) | (simp; omega)), (by repeat (first | exact Below.refl _ _ | apply below_alloc | apply pw_below_drewN | apply below_drew1 | (refine Below.setCell ?_ (by first | (simp; done) | (simp; omega) | omega) _) | (refine Below.trans ?_ (Below.mono hb4 (by first | (simp; done) | (simp; omega) | omega))) | (refine below_then ?_ (by first | (simp; done) | (simp; omega) | omega) hb2)))⟩
  · rw [show tokFault k s n = 0 by rcases hk with rfl | rfl <;> simp [tokFault, h, h2, h3]]
    rw [h] at HL
    have HL := Lib.hid HL
    have hq := (Lib.bytes_beq_iff _ _).2 (hx.2 h2)
    generalize hEE : spanEnd wordB s 0 = E at *
    clear h hx hE h2 hEE
    subst h3
    rcases hk with rfl | rfl
    all_goals
      go_enter Tryd.func81, Tryd.ntmps81
      go_wp2
      have hC : ∀ k : Int, Cur ((w.alloc (.cells #[.int .i64 k, .string s, .int .i64 0] 124)).alloc (.cells #[.string s, .int .i64 0] 137)) (w.heap.size + 1) s 0 := fun k => by simpa using Cur.made (w.alloc (.cells #[.int .i64 k, .string s, .int .i64 0] 124)) s 0 137
      go_region_held3 (fun w' => w'.cell? ⟨w.heap.size, 1, none⟩ = some (.string s))
        (first | go_keep | (rw [hc2 _ _ (by simp; omega)]; simp) | (rw [hc3 _ _ (by omega), hc2 _ _ (by simp; omega)]; simp))
        (first
          | (go_at_call 128; refine (HN.out _ _ (by repeat (first | exact hC _ | apply Cur.drawN | apply Cur.drew | apply Cur.set))).mono ?_; rintro e w2 ⟨rfl, hg2⟩; have hb2 := below_of_draws hg2; have hC2 := Cur.below (by repeat (first | exact hC _ | apply Cur.drawN | apply Cur.drew | apply Cur.set)) hb2 (by simp); obtain ⟨hc2, hf2⟩ := bcell hb2)
          | (go_at_call 127; refine (HL.out _).mono ?_; rintro e w3 ⟨rfl, rfl⟩)
          | (go_at_call 129; refine (HW.out _ _ (by repeat (first | exact hC2 | apply Cur.drawN | apply Cur.drew | apply Cur.set))).mono ?_; rintro e w4 ⟨rfl, hC4, hg4⟩; have hb4 := below_of_row (B := w.heap.size + 1) hg4 (by simp) (by have := hb2.size; simp at this ⊢; omega); obtain ⟨hc3, hf3⟩ := bcellB hb4; have k4 : w4.cell? ⟨w.heap.size, 2, none⟩ = some (.int .i64 0) := (by rw [hc3 _ _ (by omega), hc2 _ _ (by simp; omega)]; simp)))
      go_wp2
      go_ret
      exact ⟨(by first | rfl | (simp; done) | (simp [*]; done) | (rw [if_pos (by omega)]; first | rfl | (simp; done)) | (rw [if_neg (by omega)]; first | rfl | (simp; done)) | (simp; omega)), (by repeat (first | exact Below.refl _ _ | apply below_alloc | apply pw_below_drewN | apply below_drew1 | (refine Below.setCell ?_ (by first | (simp; done) | (simp; omega) | omega) _) | (refine Below.trans ?_ (Below.mono hb4 (by first | (simp; done) | (simp; omega) | omega))) | (refine below_then ?_ (by first | (simp; done) | (simp; omega) | omega) hb2)))⟩
theorem check_calls (k : Int) (s : ByteArray) (n : Int) (w : World) (hs : s.size ≤ 9223372036854775806) :
    Calls Tryd.prog 81 #[.agg #[.int .i64 k, .string s, .int .i64 n]] w fun e w' => e = .returned (.int .i64 (tokFault k s n)) ∧ Below w.heap.size w w' := by
  rcases (by omega : (k = 1 ∨ k = 2) ∨ k = 3 ∨ k = 4 ∨ k = 5 ∨ (k < 1 ∨ 5 < k)) with h | h | h | h | h
  · exact check_word k s n w h hs
  · exact check_num k s n w h hs
  · exact check_text k s n w h
  · exact check_mark k s n w h hs
  · exact check_else k s n w h
set_option maxHeartbeats 1000000 in
set_option maxRecDepth 100000 in
theorem fault_num (k : Int) (s : ByteArray) (n : Int) (w : World) (hk : k = 3) (hs : s.size ≤ 9223372036854775806) :
    Calls Tryd.prog 88 #[.agg #[.int .i64 k, .string s, .int .i64 n]] w fun e w' => e = .returned (.int .i64 (tokFault k s n)) ∧ Below w.heap.size w w' := by
  subst hk
  rcases (by omega : n < 0 ∨ 2147483647 < n ∨ (0 ≤ n ∧ n ≤ 2147483647 ∧ s.size = 0) ∨ (0 ≤ n ∧ n ≤ 2147483647 ∧ 0 < s.size)) with h | h | ⟨h, h2, h3⟩ | ⟨h, h2, h3⟩
  · rw [show tokFault 3 s n = 6 by simp [tokFault]; omega]
    go_enter Tryd.func88, Tryd.ntmps88
    go_wp2_with (first | (go_at_call 53; first | (refine (in_yes _ _ _ _ (by omega) (by omega)).mono ?_; rintro e w' ⟨rfl, rfl⟩) | (refine (in_no _ _ _ _ (by omega)).mono ?_; rintro e w' ⟨rfl, rfl⟩)) | (go_at_call 133; refine (HM.out _).mono ?_; rintro e w2 ⟨rfl, rfl⟩))
    go_ret
    exact ⟨(by first | rfl | (simp; done) | (simp [*]; done) | (rw [if_pos (by omega)]; first | rfl | (simp; done)) | (rw [if_neg (by omega)]; first | rfl | (simp; done)) | (simp; omega)), (by repeat (first | exact Below.refl _ _ | apply below_alloc | apply pw_below_drewN | apply below_drew1 | (refine Below.setCell ?_ (by first | (simp; done) | (simp; omega) | omega) _) ))⟩
  · rw [show tokFault 3 s n = 6 by simp [tokFault]; omega]
    go_enter Tryd.func88, Tryd.ntmps88
    go_wp2_with (first | (go_at_call 53; first | (refine (in_yes _ _ _ _ (by omega) (by omega)).mono ?_; rintro e w' ⟨rfl, rfl⟩) | (refine (in_no _ _ _ _ (by omega)).mono ?_; rintro e w' ⟨rfl, rfl⟩)) | (go_at_call 133; refine (HM.out _).mono ?_; rintro e w2 ⟨rfl, rfl⟩))
    go_ret
    exact ⟨(by first | rfl | (simp; done) | (simp [*]; done) | (rw [if_pos (by omega)]; first | rfl | (simp; done)) | (rw [if_neg (by omega)]; first | rfl | (simp; done)) | (simp; omega)), (by repeat (first | exact Below.refl _ _ | apply below_alloc | apply pw_below_drewN | apply below_drew1 | (refine Below.setCell ?_ (by first | (simp; done) | (simp; omega) | omega) _) ))⟩
  · rw [show tokFault 3 s n = 0 by simp [tokFault, h3]; omega]
    go_enter Tryd.func88, Tryd.ntmps88
    go_wp2_with (first | (go_at_call 53; first | (refine (in_yes _ _ _ _ (by omega) (by omega)).mono ?_; rintro e w' ⟨rfl, rfl⟩) | (refine (in_no _ _ _ _ (by omega)).mono ?_; rintro e w' ⟨rfl, rfl⟩)) | (go_at_call 133; refine (HM.out _).mono ?_; rintro e w2 ⟨rfl, rfl⟩))
    go_ret
    exact ⟨(by first | rfl | (simp; done) | (simp [*]; done) | (rw [if_pos (by omega)]; first | rfl | (simp; done)) | (rw [if_neg (by omega)]; first | rfl | (simp; done)) | (simp; omega)), (by repeat (first | exact Below.refl _ _ | apply below_alloc | apply pw_below_drewN | apply below_drew1 | (refine Below.setCell ?_ (by first | (simp; done) | (simp; omega) | omega) _) ))⟩
  · rw [show tokFault 3 s n = 3 by rw [tokFault, if_neg (by omega), if_pos rfl, if_neg (by omega), if_neg (by omega)]]
    go_enter Tryd.func88, Tryd.ntmps88
    go_wp2_with (first | (go_at_call 53; first | (refine (in_yes _ _ _ _ (by omega) (by omega)).mono ?_; rintro e w' ⟨rfl, rfl⟩) | (refine (in_no _ _ _ _ (by omega)).mono ?_; rintro e w' ⟨rfl, rfl⟩)) | (go_at_call 133; refine (HM.out _).mono ?_; rintro e w2 ⟨rfl, rfl⟩))
    go_ret
    exact ⟨(by first | rfl | (simp; done) | (simp [*]; done) | (rw [if_pos (by omega)]; first | rfl | (simp; done)) | (rw [if_neg (by omega)]; first | rfl | (simp; done)) | (simp; omega)), (by repeat (first | exact Below.refl _ _ | apply below_alloc | apply pw_below_drewN | apply below_drew1 | (refine Below.setCell ?_ (by first | (simp; done) | (simp; omega) | omega) _) ))⟩
set_option maxHeartbeats 1000000 in
set_option maxRecDepth 100000 in
theorem fault_mark (k : Int) (s : ByteArray) (n : Int) (w : World) (hk : k = 5) (hs : s.size ≤ 9223372036854775806) :
    Calls Tryd.prog 88 #[.agg #[.int .i64 k, .string s, .int .i64 n]] w fun e w' => e = .returned (.int .i64 (tokFault k s n)) ∧ Below w.heap.size w w' := by
  subst hk
  have HM := fun w (h : 0 < s.size) => markByte_calls s[0].toNat w
  have hb : ∀ h : 0 < s.size, markB s[0].toNat = headB markB s := fun h => by rw [headB, dif_pos h]
  rcases (by by_cases e : s.size = 1 <;> by_cases e2 : n = 0 <;> cases h : headB markB s <;> simp [e, e2] : (n ≠ 0) ∨ (n = 0 ∧ s.size ≠ 1) ∨ (n = 0 ∧ s.size = 1 ∧ headB markB s = false) ∨ (n = 0 ∧ s.size = 1 ∧ headB markB s = true)) with h | ⟨h, h2⟩ | ⟨h, h2, h3⟩ | ⟨h, h2, h3⟩
  · rw [show tokFault 5 s n = 3 by simp [tokFault, h]]
    clear HM hb
    go_enter Tryd.func88, Tryd.ntmps88
    go_wp2_with (first | (go_at_call 53; first | (refine (in_yes _ _ _ _ (by omega) (by omega)).mono ?_; rintro e w' ⟨rfl, rfl⟩) | (refine (in_no _ _ _ _ (by omega)).mono ?_; rintro e w' ⟨rfl, rfl⟩)) | (go_at_call 133; refine (HM.out _).mono ?_; rintro e w2 ⟨rfl, rfl⟩))
    go_ret
    exact ⟨(by first | rfl | (simp; done) | (simp [*]; done) | (rw [if_pos (by omega)]; first | rfl | (simp; done)) | (rw [if_neg (by omega)]; first | rfl | (simp; done)) | (simp; omega)), (by repeat (first | exact Below.refl _ _ | apply below_alloc | apply pw_below_drewN | apply below_drew1 | (refine Below.setCell ?_ (by first | (simp; done) | (simp; omega) | omega) _) ))⟩
  · rw [show tokFault 5 s n = 3 by simp [tokFault, h2]]
    subst h
    clear HM hb
    go_enter Tryd.func88, Tryd.ntmps88
    go_wp2_with (first | (go_at_call 53; first | (refine (in_yes _ _ _ _ (by omega) (by omega)).mono ?_; rintro e w' ⟨rfl, rfl⟩) | (refine (in_no _ _ _ _ (by omega)).mono ?_; rintro e w' ⟨rfl, rfl⟩)) | (go_at_call 133; refine (HM.out _).mono ?_; rintro e w2 ⟨rfl, rfl⟩))
    go_ret
    exact ⟨(by first | rfl | (simp; done) | (simp [*]; done) | (rw [if_pos (by omega)]; first | rfl | (simp; done)) | (rw [if_neg (by omega)]; first | rfl | (simp; done)) | (simp; omega)), (by repeat (first | exact Below.refl _ _ | apply below_alloc | apply pw_below_drewN | apply below_drew1 | (refine Below.setCell ?_ (by first | (simp; done) | (simp; omega) | omega) _) ))⟩
  · rw [show tokFault 5 s n = 3 by simp [tokFault, h3]]
    have HM := fun w => HM w (by omega)
    rw [hb (by omega), h3] at HM
    have HM := Lib.hid HM
    clear hb h3
    subst h
    have i0 : (0 : Int) < (s.size : Int) := by omega
    go_enter Tryd.func88, Tryd.ntmps88
    go_wp2_with (first | (go_at_call 53; first | (refine (in_yes _ _ _ _ (by omega) (by omega)).mono ?_; rintro e w' ⟨rfl, rfl⟩) | (refine (in_no _ _ _ _ (by omega)).mono ?_; rintro e w' ⟨rfl, rfl⟩)) | (go_at_call 133; refine (HM.out _).mono ?_; rintro e w2 ⟨rfl, rfl⟩))
    go_ret
    exact ⟨(by first | rfl | (simp; done) | (simp [*]; done) | (rw [if_pos (by omega)]; first | rfl | (simp; done)) | (rw [if_neg (by omega)]; first | rfl | (simp; done)) | (simp; omega)), (by repeat (first | exact Below.refl _ _ | apply below_alloc | apply pw_below_drewN | apply below_drew1 | (refine Below.setCell ?_ (by first | (simp; done) | (simp; omega) | omega) _) ))⟩
  · rw [show tokFault 5 s n = 0 by simp [tokFault, h, h2, h3]]
    have HM := fun w => HM w (by omega)
    rw [hb (by omega), h3] at HM
    have HM := Lib.hid HM
    clear hb h3
    subst h
    have i0 : (0 : Int) < (s.size : Int) := by omega
    go_enter Tryd.func88, Tryd.ntmps88
    go_wp2_with (first | (go_at_call 53; first | (refine (in_yes _ _ _ _ (by omega) (by omega)).mono ?_; rintro e w' ⟨rfl, rfl⟩) | (refine (in_no _ _ _ _ (by omega)).mono ?_; rintro e w' ⟨rfl, rfl⟩)) | (go_at_call 133; refine (HM.out _).mono ?_; rintro e w2 ⟨rfl, rfl⟩))
    go_ret
    exact ⟨(by first | rfl | (simp; done) | (simp [*]; done) | (rw [if_pos (by omega)]; first | rfl | (simp; done)) | (rw [if_neg (by omega)]; first | rfl | (simp; done)) | (simp; omega)), (by repeat (first | exact Below.refl _ _ | apply below_alloc | apply pw_below_drewN | apply below_drew1 | (refine Below.setCell ?_ (by first | (simp; done) | (simp; omega) | omega) _) ))⟩
set_option maxHeartbeats 1000000 in
set_option maxRecDepth 100000 in
theorem fault_text (k : Int) (s : ByteArray) (n : Int) (w : World) (hk : k = 4) :
    Calls Tryd.prog 88 #[.agg #[.int .i64 k, .string s, .int .i64 n]] w fun e w' => e = .returned (.int .i64 (tokFault k s n)) ∧ Below w.heap.size w w' := by
  subst hk
  by_cases h : n = 0
  · rw [show tokFault 4 s n = 0 by simp [tokFault, h]]
    subst h
    go_enter Tryd.func88, Tryd.ntmps88
    go_wp2_with (first | (go_at_call 53; first | (refine (in_yes _ _ _ _ (by omega) (by omega)).mono ?_; rintro e w' ⟨rfl, rfl⟩) | (refine (in_no _ _ _ _ (by omega)).mono ?_; rintro e w' ⟨rfl, rfl⟩)) | (go_at_call 133; refine (HM.out _).mono ?_; rintro e w2 ⟨rfl, rfl⟩))
    go_ret
    exact ⟨(by first | rfl | (simp; done) | (simp [*]; done) | (rw [if_pos (by omega)]; first | rfl | (simp; done)) | (rw [if_neg (by omega)]; first | rfl | (simp; done)) | (simp; omega)), (by repeat (first | exact Below.refl _ _ | apply below_alloc | apply pw_below_drewN | apply below_drew1 | (refine Below.setCell ?_ (by first | (simp; done) | (simp; omega) | omega) _) ))⟩
  · rw [show tokFault 4 s n = 3 by simp [tokFault, h]]
    have q : (n == 0) = false := by simpa using h
    go_enter Tryd.func88, Tryd.ntmps88
    go_wp2_with (first | (go_at_call 53; first | (refine (in_yes _ _ _ _ (by omega) (by omega)).mono ?_; rintro e w' ⟨rfl, rfl⟩) | (refine (in_no _ _ _ _ (by omega)).mono ?_; rintro e w' ⟨rfl, rfl⟩)) | (go_at_call 133; refine (HM.out _).mono ?_; rintro e w2 ⟨rfl, rfl⟩))
    go_ret
    exact ⟨(by first | rfl | (simp; done) | (simp [*]; done) | (rw [if_pos (by omega)]; first | rfl | (simp; done)) | (rw [if_neg (by omega)]; first | rfl | (simp; done)) | (simp; omega)), (by repeat (first | exact Below.refl _ _ | apply below_alloc | apply pw_below_drewN | apply below_drew1 | (refine Below.setCell ?_ (by first | (simp; done) | (simp; omega) | omega) _) ))⟩
set_option maxHeartbeats 1000000 in
set_option maxRecDepth 100000 in
theorem fault_else (k : Int) (s : ByteArray) (n : Int) (w : World) (hk : k < 1 ∨ 5 < k) :
    Calls Tryd.prog 88 #[.agg #[.int .i64 k, .string s, .int .i64 n]] w fun e w' => e = .returned (.int .i64 (tokFault k s n)) ∧ Below w.heap.size w w' := by
  rw [show tokFault k s n = 2 by simp [tokFault, hk]]
  rcases hk with hk | hk
  all_goals
    go_enter Tryd.func88, Tryd.ntmps88
    go_wp2_with (first | (go_at_call 53; first | (refine (in_yes _ _ _ _ (by omega) (by omega)).mono ?_; rintro e w' ⟨rfl, rfl⟩) | (refine (in_no _ _ _ _ (by omega)).mono ?_; rintro e w' ⟨rfl, rfl⟩)) | (go_at_call 133; refine (HM.out _).mono ?_; rintro e w2 ⟨rfl, rfl⟩))
    go_ret
    exact ⟨(by first | rfl | (simp; done) | (simp [*]; done) | (rw [if_pos (by omega)]; first | rfl | (simp; done)) | (rw [if_neg (by omega)]; first | rfl | (simp; done)) | (simp; omega)), (by repeat (first | exact Below.refl _ _ | apply below_alloc | apply pw_below_drewN | apply below_drew1 | (refine Below.setCell ?_ (by first | (simp; done) | (simp; omega) | omega) _) ))⟩
set_option maxHeartbeats 1000000 in
set_option maxRecDepth 100000 in
theorem fault_word (k : Int) (s : ByteArray) (n : Int) (w : World) (hk : k = 1 ∨ k = 2) (hs : s.size ≤ 9223372036854775806) :
    Calls Tryd.prog 88 #[.agg #[.int .i64 k, .string s, .int .i64 n]] w fun e w' => e = .returned (.int .i64 (tokFault k s n)) ∧ Below w.heap.size w w' := by
  have HM := fun w (h : 0 < s.size) => letterByte_calls s[0].toNat w (by omega) (by have := s[0].toNat_lt; omega)
  have HW := Lib.hid (fun w => refWordEnd_calls s 0 w (Nat.zero_le _) hs)
  have hb : ∀ h : 0 < s.size, letterB s[0].toNat = headB letterB s := fun h => by rw [headB, dif_pos h]
  have hz : s.size = 0 → headB letterB s = false := fun h => by rw [headB, dif_neg (by omega)]
  rcases (by by_cases e : n = 0 <;> by_cases e2 : 0 < s.size <;> by_cases e3 : spanEnd wordB s 0 = s.size <;> cases h : headB letterB s <;> simp [e, e2, e3] <;> (have := hz (by omega); simp [this] at h) : (n ≠ 0) ∨ (n = 0 ∧ ¬ 0 < s.size ∧ headB letterB s = false) ∨ (n = 0 ∧ 0 < s.size ∧ headB letterB s = false) ∨ (n = 0 ∧ 0 < s.size ∧ headB letterB s = true ∧ spanEnd wordB s 0 ≠ s.size) ∨ (n = 0 ∧ 0 < s.size ∧ headB letterB s = true ∧ spanEnd wordB s 0 = s.size)) with h | ⟨h, h2, h3⟩ | ⟨h, h2, h3⟩ | ⟨h, h2, h3, h4⟩ | ⟨h, h2, h3, h4⟩
  · rw [show tokFault k s n = 3 by rcases hk with rfl | rfl <;> simp [tokFault, h]]
    have q : (n == 0) = false := by simpa using h
    clear HM hb hz HW
    rcases hk with rfl | rfl
    all_goals
      go_enter Tryd.func88, Tryd.ntmps88
      go_wp2_with (go_at_call 53; first | (refine (in_yes _ _ _ _ (by omega) (by omega)).mono ?_; rintro e w' ⟨rfl, rfl⟩) | (refine (in_no _ _ _ _ (by omega)).mono ?_; rintro e w' ⟨rfl, rfl⟩))
      go_quiet (fail)
      go_wp2
      go_ret
      exact ⟨(by first | rfl | (simp; done) | (simp [*]; done) | (rw [if_pos (by omega)]; first | rfl | (simp; done)) | (rw [if_neg (by omega)]; first | rfl | (simp; done)) | (simp; omega)), (by repeat (first | exact Below.refl _ _ | apply below_alloc | apply pw_below_drewN | apply below_drew1 | (refine Below.setCell ?_ (by first | (simp; done) | (simp; omega) | omega) _) ))⟩
  · rw [show tokFault k s n = 3 by rcases hk with rfl | rfl <;> simp [tokFault, h3]]
    clear HM hb hz HW
    subst h
    obtain rfl : s = ⟨#[]⟩ := by obtain ⟨⟨l⟩⟩ := s; have : l = [] := List.length_eq_zero_iff.1 (Nat.le_zero.1 (Nat.not_lt.1 h2)); rw [this]
    clear h3 h2
    rcases hk with rfl | rfl
    all_goals
      go_enter Tryd.func88, Tryd.ntmps88
      go_wp2_with (go_at_call 53; first | (refine (in_yes _ _ _ _ (by omega) (by omega)).mono ?_; rintro e w' ⟨rfl, rfl⟩) | (refine (in_no _ _ _ _ (by omega)).mono ?_; rintro e w' ⟨rfl, rfl⟩))
      go_quiet (fail)
      go_wp2
      go_ret
      exact ⟨(by first | rfl | (simp; done) | (simp [*]; done) | (rw [if_pos (by omega)]; first | rfl | (simp; done)) | (rw [if_neg (by omega)]; first | rfl | (simp; done)) | (simp; omega)), (by repeat (first | exact Below.refl _ _ | apply below_alloc | apply pw_below_drewN | apply below_drew1 | (refine Below.setCell ?_ (by first | (simp; done) | (simp; omega) | omega) _) ))⟩
  · rw [show tokFault k s n = 3 by rcases hk with rfl | rfl <;> simp [tokFault, h3]]
    have HM := fun w => HM w h2
    rw [hb h2, h3] at HM
    have HM := Lib.hid HM
    clear hb hz HW h3
    subst h
    have i0 : (0 : Int) < (s.size : Int) := by omega
    rcases hk with rfl | rfl
    all_goals
      go_enter Tryd.func88, Tryd.ntmps88
      go_wp2_with (go_at_call 53; first | (refine (in_yes _ _ _ _ (by omega) (by omega)).mono ?_; rintro e w' ⟨rfl, rfl⟩) | (refine (in_no _ _ _ _ (by omega)).mono ?_; rintro e w' ⟨rfl, rfl⟩))
      go_quiet (first | (go_at_call 134; exact quiet_eq (HM.out _)))
      go_wp2
      go_ret
      exact ⟨(by first | rfl | (simp; done) | (simp [*]; done) | (rw [if_pos (by omega)]; first | rfl | (simp; done)) | (rw [if_neg (by omega)]; first | rfl | (simp; done)) | (simp; omega)), (by repeat (first | exact Below.refl _ _ | apply below_alloc | apply pw_below_drewN | apply below_drew1 | (refine Below.setCell ?_ (by first | (simp; done) | (simp; omega) | omega) _) ))⟩
  · rw [show tokFault k s n = 3 by rcases hk with rfl | rfl <;> simp [tokFault, h4]]
    have HM := fun w => HM w h2
    rw [hb h2, h3] at HM
    have HM := Lib.hid HM
    have q : (((spanEnd wordB s 0 : Nat) : Int) == (s.size : Int)) = false := by simp; omega
    generalize spanEnd wordB s 0 = E at *
    clear hb hz h3
    subst h
    have i0 : (0 : Int) < (s.size : Int) := by omega
    rcases hk with rfl | rfl
    all_goals
      go_enter Tryd.func88, Tryd.ntmps88
      go_wp2_with (go_at_call 53; first | (refine (in_yes _ _ _ _ (by omega) (by omega)).mono ?_; rintro e w' ⟨rfl, rfl⟩) | (refine (in_no _ _ _ _ (by omega)).mono ?_; rintro e w' ⟨rfl, rfl⟩))
      go_quiet (first | (go_at_call 134; exact quiet_eq (HM.out _)) | (go_at_call 135; exact quiet_eq (HW.out _)))
      go_wp2
      go_ret
      exact ⟨(by first | rfl | (simp; done) | (simp [*]; done) | (rw [if_pos (by omega)]; first | rfl | (simp; done)) | (rw [if_neg (by omega)]; first | rfl | (simp; done)) | (simp; omega)), (by repeat (first | exact Below.refl _ _ | apply below_alloc | apply pw_below_drewN | apply below_drew1 | (refine Below.setCell ?_ (by first | (simp; done) | (simp; omega) | omega) _) ))⟩
  · rw [show tokFault k s n = 0 by rcases hk with rfl | rfl <;> simp [tokFault, h, h3, h4]]
    have HM := fun w => HM w h2
    rw [hb h2, h3] at HM
    have HM := Lib.hid HM
    rw [h4] at HW
    clear hb hz h3
    subst h
    have i0 : (0 : Int) < (s.size : Int) := by omega
    rcases hk with rfl | rfl
    all_goals
      go_enter Tryd.func88, Tryd.ntmps88
      go_wp2_with (go_at_call 53; first | (refine (in_yes _ _ _ _ (by omega) (by omega)).mono ?_; rintro e w' ⟨rfl, rfl⟩) | (refine (in_no _ _ _ _ (by omega)).mono ?_; rintro e w' ⟨rfl, rfl⟩))
      go_quiet (first | (go_at_call 134; exact quiet_eq (HM.out _)) | (go_at_call 135; exact quiet_eq (HW.out _)))
      go_wp2
      go_ret
      exact ⟨(by first | rfl | (simp; done) | (simp [*]; done) | (rw [if_pos (by omega)]; first | rfl | (simp; done)) | (rw [if_neg (by omega)]; first | rfl | (simp; done)) | (simp; omega)), (by repeat (first | exact Below.refl _ _ | apply below_alloc | apply pw_below_drewN | apply below_drew1 | (refine Below.setCell ?_ (by first | (simp; done) | (simp; omega) | omega) _) ))⟩
theorem fault_calls (k : Int) (s : ByteArray) (n : Int) (w : World) (hs : s.size ≤ 9223372036854775806) :
    Calls Tryd.prog 88 #[.agg #[.int .i64 k, .string s, .int .i64 n]] w fun e w' => e = .returned (.int .i64 (tokFault k s n)) ∧ Below w.heap.size w w' := by
  rcases (by omega : (k = 1 ∨ k = 2) ∨ k = 3 ∨ k = 4 ∨ k = 5 ∨ (k < 1 ∨ 5 < k)) with h | h | h | h | h
  · exact fault_word k s n w h hs
  · exact fault_num k s n w h hs
  · exact fault_text k s n w h
  · exact fault_mark k s n w h hs
  · exact fault_else k s n w h
end Go.Proofs.YtpeenmbonhijmaaDoor.H
