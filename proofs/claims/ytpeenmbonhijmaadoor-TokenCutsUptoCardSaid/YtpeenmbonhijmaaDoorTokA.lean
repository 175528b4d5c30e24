/- Letters, digits, words: the walks of both sides. -/
import Derived.Test.YtpeenmbonhijmaaDoorCur
import Derived.Test.YtpeenmbonhijmaaDoorSpanP
import Derived.Deep.QuietTactic
import Derived.BigQuiet
namespace Go.Proofs.YtpeenmbonhijmaaDoor.H
open Go.RowKit Go.Proofs.YtpeenmbonhijmaaDoorW.PrintWords Go.Proofs.YtpeenmbonhijmaaDoorW.PrintLast Go.Proofs.YtpeenmbonhijmaaDoorW.PrintMore Go.Proofs.YtpeenmbonhijmaaDoor.U
set_option linter.unusedVariables false
set_option linter.unusedSimpArgs false
def letterB (c : Int) : Bool := (decide (97 ≤ c) && decide (c ≤ 122)) || (decide (65 ≤ c) && decide (c ≤ 90)) || decide (c = 95)
def digitB (c : Int) : Bool := decide (48 ≤ c) && decide (c ≤ 57)
def wordB (c : Int) : Bool := letterB c || digitB c
theorem letter_cases (c : Int) : (letterB c = true ∧ ((97 ≤ c ∧ c ≤ 122) ∨ (65 ≤ c ∧ c ≤ 90) ∨ c = 95)) ∨ (letterB c = false ∧ (c < 65 ∨ (90 < c ∧ c < 95) ∨ c = 96 ∨ 122 < c)) := by
  rcases (by omega : (97 ≤ c ∧ c ≤ 122) ∨ (65 ≤ c ∧ c ≤ 90) ∨ c = 95 ∨ (c < 65 ∨ (90 < c ∧ c < 95) ∨ c = 96 ∨ 122 < c)) with h | h | h | h
  · exact .inl ⟨by simp [letterB, h], .inl h⟩
  · exact .inl ⟨by simp [letterB, h], .inr (.inl h)⟩
  · exact .inl ⟨by simp [letterB, h], .inr (.inr h)⟩
  · exact .inr ⟨by simp [letterB]; omega, h⟩
theorem digit_cases (c : Int) : (digitB c = true ∧ 48 ≤ c ∧ c ≤ 57) ∨ (digitB c = false ∧ (c < 48 ∨ 57 < c)) := by
  rcases (by omega : (48 ≤ c ∧ c ≤ 57) ∨ (c < 48 ∨ 57 < c)) with h | h
  · exact .inl ⟨by simp [digitB, h], h⟩
  · exact .inr ⟨by simp [digitB]; omega, h⟩
set_option maxHeartbeats 1000000 in
set_option maxRecDepth 100000 in
theorem letter_calls (c : Int) (w : World) (h0 : 0 ≤ c) (h1 : c ≤ 255) : Calls Tryd.prog 127 #[.int .u8 c] w fun e w' => e = .returned (.bool (letterB c)) ∧ w = w' := by
  rcases letter_cases c with ⟨e, h | h | h⟩ | ⟨e, h | h | h | h⟩
  all_goals
    rw [e]
    clear e
    go_enter Tryd.func127, Tryd.ntmps127
    go_wp2
    go_ret
    exact ⟨(by first | rfl | (simp; done) | (simp [*]; done) | (rw [if_pos (by omega)]; first | rfl | (simp; done)) | (rw [if_neg (by omega)]; first | rfl | (simp; done)) | (simp; omega)), rfl⟩
set_option maxHeartbeats 1000000 in
set_option maxRecDepth 100000 in
theorem digit_calls (c : Int) (w : World) (h0 : 0 ≤ c) (h1 : c ≤ 255) : Calls Tryd.prog 141 #[.int .u8 c] w fun e w' => e = .returned (.bool (digitB c)) ∧ w = w' := by
  rcases digit_cases c with ⟨e, h⟩ | ⟨e, h | h⟩
  all_goals
    rw [e]
    clear e
    go_enter Tryd.func141, Tryd.ntmps141
    go_wp2
    go_ret
    exact ⟨(by first | rfl | (simp; done) | (simp [*]; done) | (rw [if_pos (by omega)]; first | rfl | (simp; done)) | (rw [if_neg (by omega)]; first | rfl | (simp; done)) | (simp; omega)), rfl⟩
set_option maxHeartbeats 1000000 in
set_option maxRecDepth 100000 in
theorem letterByte_calls (c : Int) (w : World) (h0 : 0 ≤ c) (h1 : c ≤ 255) : Calls Tryd.prog 134 #[.int .u8 c] w fun e w' => e = .returned (.bool (letterB c)) ∧ w = w' := by
  rcases letter_cases c with ⟨e, h | h | h⟩ | ⟨e, h | h | h | h⟩
  all_goals
    rw [e]
    clear e
    go_enter Tryd.func134, Tryd.ntmps134
    go_wp2_with (go_at_call 53; first | (refine (in_yes _ _ _ _ (by omega) (by omega)).mono ?_; rintro e w' ⟨rfl, rfl⟩) | (refine (in_no _ _ _ _ (by omega)).mono ?_; rintro e w' ⟨rfl, rfl⟩))
    go_ret
    exact ⟨(by first | rfl | (simp; done) | (simp [*]; done) | (rw [if_pos (by omega)]; first | rfl | (simp; done)) | (rw [if_neg (by omega)]; first | rfl | (simp; done)) | (simp; omega)), rfl⟩
set_option maxHeartbeats 1000000 in
set_option maxRecDepth 100000 in
theorem digitByte_calls (c : Int) (w : World) (h0 : 0 ≤ c) (h1 : c ≤ 255) : Calls Tryd.prog 146 #[.int .u8 c] w fun e w' => e = .returned (.bool (digitB c)) ∧ w = w' := by
  rcases digit_cases c with ⟨e, h⟩ | ⟨e, h | h⟩
  all_goals
    rw [e]
    clear e
    go_enter Tryd.func146, Tryd.ntmps146
    go_wp2_with (go_at_call 53; first | (refine (in_yes _ _ _ _ (by omega) (by omega)).mono ?_; rintro e w' ⟨rfl, rfl⟩) | (refine (in_no _ _ _ _ (by omega)).mono ?_; rintro e w' ⟨rfl, rfl⟩))
    go_ret
    exact ⟨(by first | rfl | (simp; done) | (simp [*]; done) | (rw [if_pos (by omega)]; first | rfl | (simp; done)) | (rw [if_neg (by omega)]; first | rfl | (simp; done)) | (simp; omega)), rfl⟩
def markB (c : Int) : Bool := decide (c = 123 ∨ c = 125 ∨ c = 40 ∨ c = 41 ∨ c = 91 ∨ c = 93 ∨ c = 59 ∨ c = 44)
set_option maxHeartbeats 1000000 in
set_option maxRecDepth 100000 in
theorem markByte_calls (c : Int) (w : World) : Calls Tryd.prog 133 #[.int .u8 c] w fun e w' => e = .returned (.bool (markB c)) ∧ w = w' := by
  rcases (by omega : c = 123 ∨ c = 125 ∨ c = 40 ∨ c = 41 ∨ c = 91 ∨ c = 93 ∨ c = 59 ∨ c = 44 ∨ (c ≠ 123 ∧ c ≠ 125 ∧ c ≠ 40 ∧ c ≠ 41 ∧ c ≠ 91 ∧ c ≠ 93 ∧ c ≠ 59 ∧ c ≠ 44)) with rfl | rfl | rfl | rfl | rfl | rfl | rfl | rfl | ⟨h1, h2, h3, h4, h5, h6, h7, h8⟩
  all_goals
    go_enter Tryd.func133, Tryd.ntmps133
    go_wp2
    go_ret
    exact ⟨by simp [markB, *], rfl⟩
set_option maxHeartbeats 1000000 in
set_option maxRecDepth 100000 in
theorem refWordEnd_calls (s : ByteArray) (i : Nat) (w : World) (hi : i ≤ s.size) (hs : s.size ≤ 9223372036854775806) :
    Calls Tryd.prog 135 #[.string s, .int .i64 i] w fun e w' => e = .returned (.int .i64 (spanEnd wordB s i)) ∧ w = w' := by
  go_enter Tryd.func135, Tryd.ntmps135
  go_wp2
  go_loopw [1] (fun v wr => ∃ k : Nat, k ≤ s.size ∧ v = .int .i64 k ∧ spanEnd wordB s k = spanEnd wordB s i ∧ w = wr) (fun v _ => s.size - (intOf v).toNat)
  case atStart => exact ⟨i, hi, rfl, rfl, rfl⟩
  case round =>
    obtain ⟨k, hk, rfl, hE, rfl⟩ := hrel
    by_cases hlt : k < s.size
    · have b0 := (s[k]).toNat_lt
      have hl := fun w => letterByte_calls s[k].toNat w (by omega) (by omega)
      have hd := fun w => digitByte_calls s[k].toNat w (by omega) (by omega)
      have hy := spanEnd_yes wordB hlt
      have hn := spanEnd_no wordB hlt
      simp only [wordB] at hy hn
      generalize letterB s[k].toNat = lb at hl hy hn
      generalize digitB s[k].toNat = db at hd hy hn
      have hy := Lib.hid hy
      have hn := Lib.hid hn
      have hE := Lib.hid hE
      cases hor : (lb || db) with
      | false =>
        obtain ⟨rfl, rfl⟩ : lb = false ∧ db = false := by simpa using hor
        have hq := hn.out rfl
        rw [hE.out] at hq
        have hE := Lib.hid hq
        clear hq hn hy
        go_wp2_with (first | (go_at_call 134; refine (hl _).mono ?_; rintro e w2 ⟨rfl, rfl⟩) | (go_at_call 146; refine (hd _).mono ?_; rintro e w2 ⟨rfl, rfl⟩))
        go_ret
        exact ⟨by rw [hE.out]; rfl, rfl⟩
      | true =>
        have hq := (hy.out hor).symm.trans hE.out
        have hE := Lib.hid hq
        clear hq hn hy
        rcases (by cases lb <;> simp_all : lb = true ∨ (lb = false ∧ db = true)) with rfl | ⟨rfl, rfl⟩
        all_goals
          go_wp2_with (first | (go_at_call 134; refine (hl _).mono ?_; rintro e w2 ⟨rfl, rfl⟩) | (go_at_call 146; refine (hd _).mono ?_; rintro e w2 ⟨rfl, rfl⟩))
          go_roundw
          case rel => exact ⟨k + 1, by omega, by go_num, hE.out, by trivial⟩
          case measure => simp [intOf]; omega
    · obtain rfl : k = s.size := by omega
      rw [spanEnd_end wordB (Nat.lt_irrefl _)] at hE
      have hE := Lib.hid hE
      go_wp2
      go_ret
      exact ⟨by rw [← hE.out]; rfl, rfl⟩
set_option maxHeartbeats 1000000 in
set_option maxRecDepth 100000 in
theorem next_calls (b : Nat) (s : ByteArray) (i : Nat) (w : World) (hc : Cur w b s i) (hi : i ≤ s.size) (hs : s.size ≤ 9223372036854775806) :
    Calls Tryd.prog 128 #[.pointer (some ⟨b, 0, none⟩)] w fun e w' => e = .returned (.int .u8 (if h : i < s.size then s[i].toNat else 0)) ∧ ∃ n, w' = w.drewN n := by
  obtain ⟨c0, c1, f0, f1, lt⟩ := hc
  by_cases h : i < s.size
  · rw [dif_pos h]
    have i0 : (0 : Int) ≤ (i : Int) := by omega
    have i1 : (i : Int) < (s.size : Int) := by omega
    go_enter Tryd.func128, Tryd.ntmps128
    go_wp2
    go_quiet (fail)
    go_wp2
    go_quiet (fail)
    go_wp2
    go_ret
    exact ⟨rfl, (by first | exact ⟨0, rfl⟩ | exact ⟨_, rfl⟩ | (simp only [World.drewN_drewN]; exact ⟨_, rfl⟩))⟩
  · rw [dif_neg h]
    go_enter Tryd.func128, Tryd.ntmps128
    go_wp2
    go_quiet (fail)
    go_wp2
    go_ret
    exact ⟨rfl, (by first | exact ⟨0, rfl⟩ | exact ⟨_, rfl⟩ | (simp only [World.drewN_drewN]; exact ⟨_, rfl⟩))⟩
set_option maxHeartbeats 1000000 in
set_option maxRecDepth 100000 in
theorem wordFn_calls (c : Int) (w : World) (h0 : 0 ≤ c) (h1 : c ≤ 255) : Calls Tryd.prog 165 #[.int .u8 c] w fun e w' => e = .returned (.bool (wordB c)) ∧ w = w' := by
  have hl := fun w => letter_calls c w h0 h1
  have hd := fun w => digit_calls c w h0 h1
  unfold wordB
  generalize letterB c = lb at *
  generalize digitB c = db at *
  cases lb <;> cases db
  all_goals
    go_enter Tryd.func165, Tryd.ntmps165
    go_wp2_with (first | (go_at_call 127; refine (hl _).mono ?_; rintro e w2 ⟨rfl, rfl⟩) | (go_at_call 141; refine (hd _).mono ?_; rintro e w2 ⟨rfl, rfl⟩))
    go_ret
    exact ⟨(by first | rfl | (simp; done) | (simp [*]; done) | (rw [if_pos (by omega)]; first | rfl | (simp; done)) | (rw [if_neg (by omega)]; first | rfl | (simp; done)) | (simp; omega)), rfl⟩
set_option maxHeartbeats 1000000 in
set_option maxRecDepth 100000 in
theorem spanWord_calls (b : Nat) (s : ByteArray) (i : Nat) (w : World) (hc : Cur w b s i) (hi : i ≤ s.size) (hs : s.size ≤ 9223372036854775806) :
    Calls Tryd.prog 137 #[.pointer (some ⟨b, 0, none⟩), .func (.func 165) #[] #[]] w fun e w' => e = .returned (.string (s.extract i (spanEnd wordB s i))) ∧ Cur w' b s (spanEnd wordB s i) ∧ w.grownBy w' (some b) := by
  obtain ⟨hle, hse⟩ := spanEnd_le wordB s _ i rfl hi
  generalize hE : spanEnd wordB s i = E at *
  go_enter Tryd.func137, Tryd.ntmps137
  have hp := hc.place
  obtain ⟨c0, c1, f0, f1, lt⟩ := hc
  go_wp2
  go_loopw [] (fun wr => ∃ k : Nat, k ≤ s.size ∧ Cur wr b s k ∧ spanEnd wordB s k = E ∧ w.grownBy wr (some b)) (fun wr => s.size - placeOf wr b)
  case atStart => exact ⟨i, hi, ⟨c0, c1, f0, f1, lt⟩, hE, (by repeat (first | exact World.grownBy.refl _ _ | apply grown_drawN | apply grown_drew | apply grown_set | exact hB))⟩
  case round =>
    clear c0 c1 f0 f1 lt hE
    obtain ⟨k, hk, hc, hE, hB⟩ := hrel
    have hp2 := hc.place
    by_cases hlt : k < s.size
    · have b0 := (s[k]).toNat_lt
      have i0 : (0 : Int) ≤ (k : Int) := by omega
      have i1 : (k : Int) < (s.size : Int) := by omega
      have hl := fun w => wordFn_calls s[k].toNat w (by omega) (by omega)
      have hy := spanEnd_yes wordB hlt
      have hn := spanEnd_no wordB hlt
      generalize wordB s[k].toNat = lb at hl hy hn
      have hl := Lib.hid hl
      obtain ⟨c0, c1, f0, f1, lt⟩ := hc
      cases lb with
      | false =>
        obtain rfl : k = E := (hn rfl).symm.trans hE
        clear hn hy hE
        have i2 : (0 : Int) ≤ (i : Int) := by omega
        have i3 : (i : Int) ≤ (k : Int) := by omega
        have i4 : (k : Int) ≤ (s.size : Int) := by omega
        go_wp2
        go_region_held3 (fun w' => w'.cell? ⟨b, 0, none⟩ = some (.string s) ∧ w'.cell? ⟨b, 1, none⟩ = some (.int .i64 k)) (go_keep) ((go_at_call 165; refine (hl.out _).mono ?_; rintro e w2 ⟨rfl, rfl⟩))
        go_wp2
        go_quiet (fail)
        go_wp2
        go_ret
        exact ⟨rfl, (by repeat (first | exact (Cur.mk c0 c1 f0 f1 lt) | apply Cur.drawN | apply Cur.drew | apply Cur.set)), (by repeat (first | exact World.grownBy.refl _ _ | apply grown_drawN | apply grown_drew | apply grown_set | exact hB))⟩
      | true =>
        have hq := Lib.hid ((hy rfl).symm.trans hE)
        clear hn hy hE
        go_wp2
        go_region_held3 (fun w' => w'.cell? ⟨b, 0, none⟩ = some (.string s) ∧ w'.cell? ⟨b, 1, none⟩ = some (.int .i64 k)) (go_keep) ((go_at_call 165; refine (hl.out _).mono ?_; rintro e w2 ⟨rfl, rfl⟩))
        go_wp2
        have hc1 := (Cur.set ⟨c0, c1, f0, f1, lt⟩ (k + 1)).drew
        go_roundw
        case rel => exact ⟨k + 1, by omega, hc1, hq.out, (by repeat (first | exact World.grownBy.refl _ _ | apply grown_drawN | apply grown_drew | apply grown_set | exact hB))⟩
        case measure => rw [hp2]; have := hc1.place; simp at this ⊢; omega
    · obtain rfl : k = s.size := by omega
      obtain rfl : s.size = E := by rw [← hE, spanEnd_end _ (by omega)]
      obtain ⟨c0, c1, f0, f1, lt⟩ := hc
      clear hE
      have i2 : (0 : Int) ≤ (i : Int) := by omega
      have i3 : (i : Int) ≤ (s.size : Int) := by omega
      go_wp2
      go_quiet (fail)
      go_wp2
      go_quiet (fail)
      go_wp2
      go_ret
      exact ⟨rfl, (by repeat (first | exact (Cur.mk c0 c1 f0 f1 lt) | apply Cur.drawN | apply Cur.drew | apply Cur.set)), (by repeat (first | exact World.grownBy.refl _ _ | apply grown_drawN | apply grown_drew | apply grown_set | exact hB))⟩
end Go.Proofs.YtpeenmbonhijmaaDoor.H
