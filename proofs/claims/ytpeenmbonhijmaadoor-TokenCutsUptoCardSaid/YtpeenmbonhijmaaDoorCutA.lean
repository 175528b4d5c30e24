/- Scripts cut into tokens: what says nothing: the walk of the cutter's skip. -/
import Derived.Test.YtpeenmbonhijmaaDoorCutP
import Derived.Test.YtpeenmbonhijmaaDoorBlk
import Derived.Test.YtpeenmbonhijmaaDoorShelf
import Derived.Deep.RegionHeld3
namespace Go.Proofs.YtpeenmbonhijmaaDoor.H
open Go.RowKit Go.Proofs.YtpeenmbonhijmaaDoorW.PrintWords Go.Proofs.YtpeenmbonhijmaaDoorW.PrintLast Go.Proofs.YtpeenmbonhijmaaDoorW.PrintMore Go.Proofs.YtpeenmbonhijmaaDoor.U
set_option linter.unusedVariables false
set_option linter.unusedSimpArgs false
theorem drop_extract (s : ByteArray) (e : Nat) : (s.extract e s.size).data.toList = s.data.toList.drop e := by
  exact Lib.extract_to_end s e
theorem list_get {s : ByteArray} {e : Nat} (h : e < s.size) : s.data.toList.drop e = s[e] :: s.data.toList.drop (e + 1) := by
  rw [List.drop_eq_getElem_cons (by simpa using h), Array.getElem_toList]; rfl
theorem nx_eq {s : ByteArray} {e : Nat} (h : e < s.size) (c : UInt8) : (nx s e = c.toNat) ↔ c = s[e] := by
  rw [nx_in h]
  constructor
  · intro h2; exact (UInt8.toNat_inj.1 (by exact_mod_cast h2)).symm
  · intro h2; rw [h2]
theorem pre_two (s : ByteArray) (e : Nat) (a b : UInt8) (ha : a.toNat ≠ 0) (hb : b.toNat ≠ 0) : ([a, b] : List UInt8).isPrefixOf (s.data.toList.drop e) = decide (nx s e = a.toNat ∧ nx s (e + 1) = b.toNat) := by
  rcases Nat.lt_or_ge e s.size with h | h
  · rw [list_get h]
    rcases Nat.lt_or_ge (e + 1) s.size with h2 | h2
    · rw [list_get h2, Bool.eq_iff_iff, decide_eq_true_eq, nx_eq h, nx_eq h2]
      simp [List.isPrefixOf]
    · rw [List.drop_eq_nil_of_le (by simpa using h2), nx_out (show ¬ e + 1 < s.size by omega)]
      have : ¬ ((0 : Int) = b.toNat) := by omega
      simp [List.isPrefixOf, this]
  · rw [List.drop_eq_nil_of_le (by simpa using h), nx_out (show ¬ e < s.size by omega)]
    have : ¬ ((0 : Int) = a.toNat) := by omega
    simp [List.isPrefixOf, this]
theorem index_star (s : ByteArray) : ∀ n e, s.size - e = n → Lib.index (s.data.toList.drop e) [42, 47] = match starAt s e with | some q => ((q - e : Nat) : Int) | none => -1 := by
  intro n
  induction n with
  | zero =>
    intro e h
    rw [List.drop_eq_nil_of_le (by simp; omega), starAt, if_neg (by omega)]
    rfl
  | succ n ih =>
    intro e h
    have hlt : e < s.size := by omega
    have hp := pre_two s e 42 47 (by decide) (by decide)
    rw [list_get hlt] at hp ⊢
    rw [Lib.index, hp, ih (e + 1) (by omega)]
    by_cases h2 : e + 1 < s.size
    · rw [starAt.eq_1 s e, if_pos h2]
      by_cases h3 : nx s e = 42 ∧ nx s (e + 1) = 47
      · rw [if_pos h3, if_pos (by rw [decide_eq_true_eq]; exact h3)]; simp
      · rw [if_neg h3, if_neg (by rw [decide_eq_true_eq]; exact h3)]
        cases hq : starAt s (e + 1) with
        | none => rfl
        | some q =>
          have := starAt_ge s _ _ _ (Nat.le_refl _) hq
          simp only
          rw [if_neg (by rw [beq_iff_eq]; omega)]
          omega
    · have h4 : starAt s (e + 1) = none := by rw [starAt, if_neg (show ¬ e + 1 + 1 < s.size by omega)]
      have h5 : starAt s e = none := by rw [starAt, if_neg h2]
      have h6 : ¬ (nx s e = 42 ∧ nx s (e + 1) = 47) := by rw [nx_out h2]; rintro ⟨_, h3⟩; cases h3
      rw [h4, h5, if_neg (by rw [decide_eq_true_eq]; exact h6)]
      rfl
set_option maxHeartbeats 1000000 in
set_option maxRecDepth 100000 in
theorem wsFn_calls (c : Int) (w : World) (h0 : 0 ≤ c) (h1 : c ≤ 255) : Calls Tryd.prog 138 #[.int .u8 c] w fun e w' => e = .returned (.bool (wsB c)) ∧ w = w' := by
  rcases (by omega : c = 32 ∨ c = 9 ∨ c = 13 ∨ c = 10 ∨ (c ≠ 32 ∧ c ≠ 9 ∧ c ≠ 13 ∧ c ≠ 10)) with rfl | rfl | rfl | rfl | ⟨h1, h2, h3, h4⟩
  all_goals
    go_enter Tryd.func138, Tryd.ntmps138
    go_wp2
    go_ret
    exact ⟨by simp [wsB, *], rfl⟩
set_option maxHeartbeats 1000000 in
set_option maxRecDepth 100000 in
theorem lineFn_calls (c : Int) (w : World) (h0 : 0 ≤ c) (h1 : c ≤ 255) : Calls Tryd.prog 139 #[.int .u8 c] w fun e w' => e = .returned (.bool (lineB c)) ∧ w = w' := by
  by_cases h : c = 10
  all_goals
    go_enter Tryd.func139, Tryd.ntmps139
    go_wp2
    go_ret
    exact ⟨by simp [lineB, *], rfl⟩
set_option maxHeartbeats 1000000 in
set_option maxRecDepth 100000 in
theorem spanWs_calls (b : Nat) (s : ByteArray) (i : Nat) (w : World) (hc : Cur w b s i) (hi : i ≤ s.size) (hs : s.size ≤ 9223372036854775806) :
    Calls Tryd.prog 137 #[.pointer (some ⟨b, 0, none⟩), .func (.func 138) #[] #[]] w fun e w' => e = .returned (.string (s.extract i (spanEnd wsB s i))) ∧ Cur w' b s (spanEnd wsB s i) ∧ w.grownBy w' (some b) := by
  obtain ⟨hle, hse⟩ := spanEnd_le wsB s _ i rfl hi
  generalize hE : spanEnd wsB s i = E at *
  go_enter Tryd.func137, Tryd.ntmps137
  have hp := hc.place
  obtain ⟨c0, c1, f0, f1, lt⟩ := hc
  go_wp2
  go_loopw [] (fun wr => ∃ k : Nat, k ≤ s.size ∧ Cur wr b s k ∧ spanEnd wsB s k = E ∧ w.grownBy wr (some b)) (fun wr => s.size - placeOf wr b)
  case atStart => exact ⟨i, hi, ⟨c0, c1, f0, f1, lt⟩, hE, (by repeat (first | exact World.grownBy.refl _ _ | apply grown_drawN | apply grown_drew | apply grown_set | exact hB))⟩
  case round =>
    clear c0 c1 f0 f1 lt hE
    obtain ⟨k, hk, hc, hE, hB⟩ := hrel
    have hp2 := hc.place
    by_cases hlt : k < s.size
    · have b0 := (s[k]).toNat_lt
      have i0 : (0 : Int) ≤ (k : Int) := by omega
      have i1 : (k : Int) < (s.size : Int) := by omega
      have hl := fun w => wsFn_calls s[k].toNat w (by omega) (by omega)
      have hy := spanEnd_yes wsB hlt
      have hn := spanEnd_no wsB hlt
      generalize wsB s[k].toNat = lb at hl hy hn
      have hl := Lib.hid hl
      obtain ⟨c0, c1, f0, f1, lt⟩ := hc
      cases lb with
      | false =>
        obtain rfl : k = E := (hn rfl).symm.trans hE
        clear hn hy hE
        have i2 : (0 : Int) ≤ (i : Int) := by omega
        have i3 : (i : Int) ≤ (k : Int) := by omega
        have i4 : (k : Int) ≤ (s.size : Int) := by omega
        go_wp2
        go_region_held3 (fun w' => w'.cell? ⟨b, 0, none⟩ = some (.string s) ∧ w'.cell? ⟨b, 1, none⟩ = some (.int .i64 k)) (go_keep) ((go_at_call 138; refine (hl.out _).mono ?_; rintro e w2 ⟨rfl, rfl⟩))
        go_wp2
        go_quiet (fail)
        go_wp2
        go_ret
        exact ⟨rfl, (by repeat (first | exact (Cur.mk c0 c1 f0 f1 lt) | apply Cur.drawN | apply Cur.drew | apply Cur.set)), (by repeat (first | exact World.grownBy.refl _ _ | apply grown_drawN | apply grown_drew | apply grown_set | exact hB))⟩
      | true =>
        have hq := Lib.hid ((hy rfl).symm.trans hE)
        clear hn hy hE
        go_wp2
        go_region_held3 (fun w' => w'.cell? ⟨b, 0, none⟩ = some (.string s) ∧ w'.cell? ⟨b, 1, none⟩ = some (.int .i64 k)) (go_keep) ((go_at_call 138; refine (hl.out _).mono ?_; rintro e w2 ⟨rfl, rfl⟩))
        go_wp2
        have hc1 := (Cur.set ⟨c0, c1, f0, f1, lt⟩ (k + 1)).drew
        go_roundw
        case rel => exact ⟨k + 1, by omega, hc1, hq.out, (by repeat (first | exact World.grownBy.refl _ _ | apply grown_drawN | apply grown_drew | apply grown_set | exact hB))⟩
        case measure => rw [hp2]; have := hc1.place; simp at this ⊢; omega
    · obtain rfl : k = s.size := by omega
      obtain rfl : s.size = E := by rw [← hE, spanEnd_end _ (by omega)]
      obtain ⟨c0, c1, f0, f1, lt⟩ := hc
      clear hE
      have i2 : (0 : Int) ≤ (i : Int) := by omega
      have i3 : (i : Int) ≤ (s.size : Int) := by omega
      go_wp2
      go_quiet (fail)
      go_wp2
      go_quiet (fail)
      go_wp2
      go_ret
      exact ⟨rfl, (by repeat (first | exact (Cur.mk c0 c1 f0 f1 lt) | apply Cur.drawN | apply Cur.drew | apply Cur.set)), (by repeat (first | exact World.grownBy.refl _ _ | apply grown_drawN | apply grown_drew | apply grown_set | exact hB))⟩
set_option maxHeartbeats 1000000 in
set_option maxRecDepth 100000 in
theorem spanLine_calls (b : Nat) (s : ByteArray) (i : Nat) (w : World) (hc : Cur w b s i) (hi : i ≤ s.size) (hs : s.size ≤ 9223372036854775806) :
    Calls Tryd.prog 137 #[.pointer (some ⟨b, 0, none⟩), .func (.func 139) #[] #[]] w fun e w' => e = .returned (.string (s.extract i (spanEnd lineB s i))) ∧ Cur w' b s (spanEnd lineB s i) ∧ w.grownBy w' (some b) := by
  obtain ⟨hle, hse⟩ := spanEnd_le lineB s _ i rfl hi
  generalize hE : spanEnd lineB s i = E at *
  go_enter Tryd.func137, Tryd.ntmps137
  have hp := hc.place
  obtain ⟨c0, c1, f0, f1, lt⟩ := hc
  go_wp2
  go_loopw [] (fun wr => ∃ k : Nat, k ≤ s.size ∧ Cur wr b s k ∧ spanEnd lineB s k = E ∧ w.grownBy wr (some b)) (fun wr => s.size - placeOf wr b)
  case atStart => exact ⟨i, hi, ⟨c0, c1, f0, f1, lt⟩, hE, (by repeat (first | exact World.grownBy.refl _ _ | apply grown_drawN | apply grown_drew | apply grown_set | exact hB))⟩
  case round =>
    clear c0 c1 f0 f1 lt hE
    obtain ⟨k, hk, hc, hE, hB⟩ := hrel
    have hp2 := hc.place
    by_cases hlt : k < s.size
    · have b0 := (s[k]).toNat_lt
      have i0 : (0 : Int) ≤ (k : Int) := by omega
      have i1 : (k : Int) < (s.size : Int) := by omega
      have hl := fun w => lineFn_calls s[k].toNat w (by omega) (by omega)
      have hy := spanEnd_yes lineB hlt
      have hn := spanEnd_no lineB hlt
      generalize lineB s[k].toNat = lb at hl hy hn
      have hl := Lib.hid hl
      obtain ⟨c0, c1, f0, f1, lt⟩ := hc
      cases lb with
      | false =>
        obtain rfl : k = E := (hn rfl).symm.trans hE
        clear hn hy hE
        have i2 : (0 : Int) ≤ (i : Int) := by omega
        have i3 : (i : Int) ≤ (k : Int) := by omega
        have i4 : (k : Int) ≤ (s.size : Int) := by omega
        go_wp2
        go_region_held3 (fun w' => w'.cell? ⟨b, 0, none⟩ = some (.string s) ∧ w'.cell? ⟨b, 1, none⟩ = some (.int .i64 k)) (go_keep) ((go_at_call 139; refine (hl.out _).mono ?_; rintro e w2 ⟨rfl, rfl⟩))
        go_wp2
        go_quiet (fail)
        go_wp2
        go_ret
        exact ⟨rfl, (by repeat (first | exact (Cur.mk c0 c1 f0 f1 lt) | apply Cur.drawN | apply Cur.drew | apply Cur.set)), (by repeat (first | exact World.grownBy.refl _ _ | apply grown_drawN | apply grown_drew | apply grown_set | exact hB))⟩
      | true =>
        have hq := Lib.hid ((hy rfl).symm.trans hE)
        clear hn hy hE
        go_wp2
        go_region_held3 (fun w' => w'.cell? ⟨b, 0, none⟩ = some (.string s) ∧ w'.cell? ⟨b, 1, none⟩ = some (.int .i64 k)) (go_keep) ((go_at_call 139; refine (hl.out _).mono ?_; rintro e w2 ⟨rfl, rfl⟩))
        go_wp2
        have hc1 := (Cur.set ⟨c0, c1, f0, f1, lt⟩ (k + 1)).drew
        go_roundw
        case rel => exact ⟨k + 1, by omega, hc1, hq.out, (by repeat (first | exact World.grownBy.refl _ _ | apply grown_drawN | apply grown_drew | apply grown_set | exact hB))⟩
        case measure => rw [hp2]; have := hc1.place; simp at this ⊢; omega
    · obtain rfl : k = s.size := by omega
      obtain rfl : s.size = E := by rw [← hE, spanEnd_end _ (by omega)]
      obtain ⟨c0, c1, f0, f1, lt⟩ := hc
      clear hE
      have i2 : (0 : Int) ≤ (i : Int) := by omega
      have i3 : (i : Int) ≤ (s.size : Int) := by omega
      go_wp2
      go_quiet (fail)
      go_wp2
      go_quiet (fail)
      go_wp2
      go_ret
      exact ⟨rfl, (by repeat (first | exact (Cur.mk c0 c1 f0 f1 lt) | apply Cur.drawN | apply Cur.drew | apply Cur.set)), (by repeat (first | exact World.grownBy.refl _ _ | apply grown_drawN | apply grown_drew | apply grown_set | exact hB))⟩
set_option maxHeartbeats 1000000 in
set_option maxRecDepth 100000 in
theorem spanDigit_calls (b : Nat) (s : ByteArray) (i : Nat) (w : World) (hc : Cur w b s i) (hi : i ≤ s.size) (hs : s.size ≤ 9223372036854775806) :
    Calls Tryd.prog 137 #[.pointer (some ⟨b, 0, none⟩), .func (.func 141) #[] #[]] w fun e w' => e = .returned (.string (s.extract i (spanEnd digitB s i))) ∧ Cur w' b s (spanEnd digitB s i) ∧ w.grownBy w' (some b) := by
  obtain ⟨hle, hse⟩ := spanEnd_le digitB s _ i rfl hi
  generalize hE : spanEnd digitB s i = E at *
  go_enter Tryd.func137, Tryd.ntmps137
  have hp := hc.place
  obtain ⟨c0, c1, f0, f1, lt⟩ := hc
  go_wp2
  go_loopw [] (fun wr => ∃ k : Nat, k ≤ s.size ∧ Cur wr b s k ∧ spanEnd digitB s k = E ∧ w.grownBy wr (some b)) (fun wr => s.size - placeOf wr b)
  case atStart => exact ⟨i, hi, ⟨c0, c1, f0, f1, lt⟩, hE, (by repeat (first | exact World.grownBy.refl _ _ | apply grown_drawN | apply grown_drew | apply grown_set | exact hB))⟩
  case round =>
    clear c0 c1 f0 f1 lt hE
    obtain ⟨k, hk, hc, hE, hB⟩ := hrel
    have hp2 := hc.place
    by_cases hlt : k < s.size
    · have b0 := (s[k]).toNat_lt
      have i0 : (0 : Int) ≤ (k : Int) := by omega
      have i1 : (k : Int) < (s.size : Int) := by omega
      have hl := fun w => digit_calls s[k].toNat w (by omega) (by omega)
      have hy := spanEnd_yes digitB hlt
      have hn := spanEnd_no digitB hlt
      generalize digitB s[k].toNat = lb at hl hy hn
      have hl := Lib.hid hl
      obtain ⟨c0, c1, f0, f1, lt⟩ := hc
      cases lb with
      | false =>
        obtain rfl : k = E := (hn rfl).symm.trans hE
        clear hn hy hE
        have i2 : (0 : Int) ≤ (i : Int) := by omega
        have i3 : (i : Int) ≤ (k : Int) := by omega
        have i4 : (k : Int) ≤ (s.size : Int) := by omega
        go_wp2
        go_region_held3 (fun w' => w'.cell? ⟨b, 0, none⟩ = some (.string s) ∧ w'.cell? ⟨b, 1, none⟩ = some (.int .i64 k)) (go_keep) ((go_at_call 141; refine (hl.out _).mono ?_; rintro e w2 ⟨rfl, rfl⟩))
        go_wp2
        go_quiet (fail)
        go_wp2
        go_ret
        exact ⟨rfl, (by repeat (first | exact (Cur.mk c0 c1 f0 f1 lt) | apply Cur.drawN | apply Cur.drew | apply Cur.set)), (by repeat (first | exact World.grownBy.refl _ _ | apply grown_drawN | apply grown_drew | apply grown_set | exact hB))⟩
      | true =>
        have hq := Lib.hid ((hy rfl).symm.trans hE)
        clear hn hy hE
        go_wp2
        go_region_held3 (fun w' => w'.cell? ⟨b, 0, none⟩ = some (.string s) ∧ w'.cell? ⟨b, 1, none⟩ = some (.int .i64 k)) (go_keep) ((go_at_call 141; refine (hl.out _).mono ?_; rintro e w2 ⟨rfl, rfl⟩))
        go_wp2
        have hc1 := (Cur.set ⟨c0, c1, f0, f1, lt⟩ (k + 1)).drew
        go_roundw
        case rel => exact ⟨k + 1, by omega, hc1, hq.out, (by repeat (first | exact World.grownBy.refl _ _ | apply grown_drawN | apply grown_drew | apply grown_set | exact hB))⟩
        case measure => rw [hp2]; have := hc1.place; simp at this ⊢; omega
    · obtain rfl : k = s.size := by omega
      obtain rfl : s.size = E := by rw [← hE, spanEnd_end _ (by omega)]
      obtain ⟨c0, c1, f0, f1, lt⟩ := hc
      clear hE
      have i2 : (0 : Int) ≤ (i : Int) := by omega
      have i3 : (i : Int) ≤ (s.size : Int) := by omega
      go_wp2
      go_quiet (fail)
      go_wp2
      go_quiet (fail)
      go_wp2
      go_ret
      exact ⟨rfl, (by repeat (first | exact (Cur.mk c0 c1 f0 f1 lt) | apply Cur.drawN | apply Cur.drew | apply Cur.set)), (by repeat (first | exact World.grownBy.refl _ _ | apply grown_drawN | apply grown_drew | apply grown_set | exact hB))⟩
theorem cnext_cur (b : Nat) (s : ByteArray) (i : Nat) (w : World) (hc : Cur w b s i) (hi : i ≤ s.size) (hs : s.size ≤ 9223372036854775806) :
    Calls Tryd.prog 128 #[.pointer (some ⟨b, 0, none⟩)] w fun e w' => e = .returned (.int .u8 (nx s i)) ∧ Cur w' b s i ∧ w.grownBy w' (some b) :=
  (next_calls b s i w hc hi hs).mono fun e w' ⟨he, n, hw⟩ => ⟨he, by subst hw; exact hc.drawN n, by subst hw; exact grown_drawN (World.grownBy.refl _ _) n⟩
theorem hasPre_calls (s : ByteArray) (j : Nat) (w : World) : Calls Tryd.prog 140 #[.string (s.extract j s.size), .string ⟨#[47, 42]⟩] w fun e w' => e = .returned (.bool (decide (nx s j = 47 ∧ nx s (j + 1) = 42))) ∧ w = w' :=
  (Tryd.strings_HasPrefix (s.extract j s.size) ⟨#[47, 42]⟩ w).mono fun e w' ⟨he, hw⟩ => ⟨by rw [he, drop_extract]; exact congrArg (fun b => Ending.returned (.bool b)) (pre_two s j 47 42 (by decide) (by decide)), hw.symm⟩
def starV (s : ByteArray) (e : Nat) : Int := match starAt s e with | some q => ((q - e : Nat) : Int) | none => -1
theorem starIx_calls (s : ByteArray) (e : Nat) (m : Int) (w : World) (hs : s.size ≤ 1048576) (hm : w.cell? ⟨0, 0, none⟩ = some (.int .i64 m)) : Calls Tryd.prog 114 #[.string (s.extract e s.size), .string ⟨#[42, 47]⟩] w fun x w' => x = .returned (.int .i64 (starV s e)) ∧ w = w' :=
  (Tryd.strings_Index (s.extract e s.size) ⟨#[42, 47]⟩ m w (by rw [ext_size (Nat.le_refl _)]; omega) hm).mono fun x w' ⟨he, hw⟩ => ⟨by rw [he, drop_extract]; exact congrArg (fun b => Ending.returned (.int .i64 b)) (index_star s _ e rfl), hw.symm⟩
end Go.Proofs.YtpeenmbonhijmaaDoor.H
