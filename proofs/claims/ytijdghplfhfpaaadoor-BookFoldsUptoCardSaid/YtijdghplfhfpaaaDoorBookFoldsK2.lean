/- The claim BookFoldsUptoCardSaid, part 2 of 7. -/
import Derived.Test.YtijdghplfhfpaaaDoorBookFoldsK1
import Derived.WalkLawsBesides
import Derived.Deep.QuietTactic
import Derived.BigQuiet
import Derived.Defers
import Derived.Recover
import Derived.RegionTactic
import Derived.Deep.RegionHeld3
/- Lists of addresses: the reader's small methods: the walks. -/
namespace Go.Proofs.YtijdghplfhfpaaaDoor.H
open Go.RowKit Go.Proofs.YtijdghplfhfpaaaDoorW.PrintWords Go.Proofs.YtijdghplfhfpaaaDoorW.PrintLast Go.Proofs.YtijdghplfhfpaaaDoor.U
set_option linter.unusedVariables false
set_option linter.unusedSimpArgs false
theorem place_next {w : World} {b k n : Nat} {s : ByteArray} (h : Cur w b s k) : placeOf ((w.drewN n).setCell ⟨b, 1, none⟩ (.int .i64 ((k : Int) + 1))) b = k + 1 := by
  have := (Cur.set (Cur.drawN h n) (k + 1)).place
  simpa using this
set_option maxHeartbeats 1000000 in
set_option maxRecDepth 100000 in
theorem rskip_calls (b : Nat) (s : ByteArray) (i : Nat) (w : World) (hc : Cur w b s i) (hi : i ≤ s.size) (hs : s.size ≤ 9223372036854775806) :
    Calls Tryd.prog 147 #[.pointer (some ⟨b, 0, none⟩)] w fun e w' => e = .returned (.tuple #[]) ∧ Cur w' b s (spanEnd blankB s i) ∧ w.grownBy w' (some b) := by
  obtain ⟨hle, hse⟩ := spanEnd_le blankB s _ i rfl hi
  generalize hE : spanEnd blankB s i = E at *
  go_enter Tryd.func147, Tryd.ntmps147
  have hp := hc.place
  obtain ⟨c0, c1, f0, f1, lt⟩ := hc
  go_wp2
  go_loopw [] (fun wr => ∃ k : Nat, k ≤ s.size ∧ Cur wr b s k ∧ spanEnd blankB s k = E ∧ w.grownBy wr (some b)) (fun wr => s.size - placeOf wr b)
  case atStart => exact ⟨i, hi, ⟨c0, c1, f0, f1, lt⟩, hE, (by repeat (first | exact World.grownBy.refl _ _ | apply grown_drawN | apply grown_drew | apply grown_set | exact hB))⟩
  case round =>
    clear c0 c1 f0 f1 lt hE
    obtain ⟨k, hk, hc, hE, hB⟩ := hrel
    have hp2 := hc.place
    by_cases hlt : k < s.size
    · have b0 := (s[k]).toNat_lt
      have i0 : (0 : Int) ≤ (k : Int) := by omega
      have i1 : (k : Int) < (s.size : Int) := by omega
      have hy := spanEnd_yes blankB hlt
      have hn := spanEnd_no blankB hlt
      obtain ⟨c0, c1, f0, f1, lt⟩ := hc
      rcases (by omega : s[k].toNat = 32 ∨ s[k].toNat = 9 ∨ (s[k].toNat ≠ 32 ∧ s[k].toNat ≠ 9)) with h1 | h1 | ⟨h1, h2⟩
      · have hq := Lib.hid ((hy (by simp [blankB, h1])).symm.trans hE)
        have e1 : ((s[k].toNat : Int) == 32) = true := by rw [beq_iff_eq]; omega
        clear hn hy hE h1
        go_wp2
        go_quiet (fail)
        go_wp2
        go_roundw
        case rel => exact ⟨k + 1, by omega, Cur.set (Cur.drawN ⟨c0, c1, f0, f1, lt⟩ _) (k + 1), hq.out, (by repeat (first | exact World.grownBy.refl _ _ | apply grown_drawN | apply grown_drew | apply grown_set | exact hB))⟩
        case measure => rw [hp2, place_next (Cur.mk c0 c1 f0 f1 lt)]; omega
      · have hq := Lib.hid ((hy (by simp [blankB, h1])).symm.trans hE)
        have e1 : ((s[k].toNat : Int) == 32) = false := by rw [beq_eq_false_iff_ne]; omega
        have e2 : ((s[k].toNat : Int) == 9) = true := by rw [beq_iff_eq]; omega
        clear hn hy hE h1
        go_wp2
        go_quiet (fail)
        go_wp2
        go_roundw
        case rel => exact ⟨k + 1, by omega, Cur.set (Cur.drawN ⟨c0, c1, f0, f1, lt⟩ _) (k + 1), hq.out, (by repeat (first | exact World.grownBy.refl _ _ | apply grown_drawN | apply grown_drew | apply grown_set | exact hB))⟩
        case measure => rw [hp2, place_next (Cur.mk c0 c1 f0 f1 lt)]; omega
      · obtain rfl : k = E := (hn (by simp [blankB]; omega)).symm.trans hE
        have e1 : ((s[k].toNat : Int) == 32) = false := by rw [beq_eq_false_iff_ne]; omega
        have e2 : ((s[k].toNat : Int) == 9) = false := by rw [beq_eq_false_iff_ne]; omega
        clear hn hy hE h1 h2
        go_wp2
        go_quiet (fail)
        go_wp2
        go_end0
        exact ⟨rfl, (by repeat (first | exact (Cur.mk c0 c1 f0 f1 lt) | apply Cur.drawN | apply Cur.drew | apply Cur.set)), (by repeat (first | exact World.grownBy.refl _ _ | apply grown_drawN | apply grown_drew | apply grown_set | exact hB))⟩
    · obtain rfl : k = s.size := by omega
      obtain rfl : s.size = E := by rw [← hE, spanEnd_end _ (by omega)]
      obtain ⟨c0, c1, f0, f1, lt⟩ := hc
      clear hE
      go_wp2
      go_quiet (fail)
      go_wp2
      go_end0
      exact ⟨rfl, (by repeat (first | exact (Cur.mk c0 c1 f0 f1 lt) | apply Cur.drawN | apply Cur.drew | apply Cur.set)), (by repeat (first | exact World.grownBy.refl _ _ | apply grown_drawN | apply grown_drew | apply grown_set | exact hB))⟩
set_option maxHeartbeats 1000000 in
set_option maxRecDepth 100000 in
theorem rnext_calls (b : Nat) (s : ByteArray) (i : Nat) (w : World) (hc : Cur w b s i) (hi : i ≤ s.size) (hs : s.size ≤ 9223372036854775806) :
    Calls Tryd.prog 149 #[.pointer (some ⟨b, 0, none⟩)] w fun e w' => e = .returned (.int .u8 (nx s i)) ∧ ∃ n, w' = w.drewN n := by
  obtain ⟨c0, c1, f0, f1, lt⟩ := hc
  by_cases h : i < s.size
  · rw [nx_in h]
    have i0 : (0 : Int) ≤ (i : Int) := by omega
    have i1 : (i : Int) < (s.size : Int) := by omega
    have e1 : ((i : Int) == s.size) = false := by rw [beq_eq_false_iff_ne]; omega
    go_enter Tryd.func149, Tryd.ntmps149
    go_wp2
    go_quiet (fail)
    go_wp2
    go_quiet (fail)
    go_wp2
    go_ret
    exact ⟨rfl, (by first | exact ⟨0, rfl⟩ | exact ⟨_, rfl⟩ | (simp only [World.drewN_drewN]; exact ⟨_, rfl⟩))⟩
  · rw [nx_out h]
    obtain rfl : i = s.size := by omega
    go_enter Tryd.func149, Tryd.ntmps149
    go_wp2
    go_quiet (fail)
    go_wp2
    go_ret
    exact ⟨rfl, (by first | exact ⟨0, rfl⟩ | exact ⟨_, rfl⟩ | (simp only [World.drewN_drewN]; exact ⟨_, rfl⟩))⟩
theorem rnext_cur (b : Nat) (s : ByteArray) (i : Nat) (w : World) (hc : Cur w b s i) (hi : i ≤ s.size) (hs : s.size ≤ 9223372036854775806) :
    Calls Tryd.prog 149 #[.pointer (some ⟨b, 0, none⟩)] w fun e w' => e = .returned (.int .u8 (nx s i)) ∧ Cur w' b s i ∧ w.grownBy w' (some b) :=
  (rnext_calls b s i w hc hi hs).mono fun e w' ⟨he, n, hw⟩ => ⟨he, by subst hw; exact hc.drawN n, by subst hw; exact grown_drawN (World.grownBy.refl _ _) n⟩
theorem must_yes (w : World) : Calls Tryd.prog 148 #[.bool true] w fun e w' => e = .returned (.tuple #[]) ∧ w = w' := by
  go_enter Tryd.func148, Tryd.ntmps148
  go_wp2
  go_end0
  exact ⟨rfl, rfl⟩
/-- The panic of who.must. -/
def mustP : List PanicEntry := [{ v := .iface 26 (.int .i64 3), recovered := false }]
theorem must_no (w : World) : Calls Tryd.prog 148 #[.bool false] w fun e w' => e = .panicked mustP ∧ w = w' := by
  go_enter Tryd.func148, Tryd.ntmps148
  go_wp2
  exact ⟨rfl, rfl, rfl⟩
set_option maxHeartbeats 1000000 in
set_option maxRecDepth 100000 in
theorem rrun_calls (b : Nat) (s : ByteArray) (i : Nat) (w : World) (hc : Cur w b s i) (hi : i ≤ s.size) (hs : s.size ≤ 9223372036854775806) :
    Calls Tryd.prog 187 #[.pointer (some ⟨b, 0, none⟩)] w fun e w' => e = .returned (.string (s.extract i (spanEnd runB s i))) ∧ Cur w' b s (spanEnd runB s i) ∧ w.grownBy w' (some b) := by
  obtain ⟨hle, hse⟩ := spanEnd_le runB s _ i rfl hi
  generalize hE : spanEnd runB s i = E at *
  go_enter Tryd.func187, Tryd.ntmps187
  have hp := hc.place
  obtain ⟨c0, c1, f0, f1, lt⟩ := hc
  go_wp2
  go_loopw [] (fun wr => ∃ k : Nat, k ≤ s.size ∧ Cur wr b s k ∧ spanEnd runB s k = E ∧ w.grownBy wr (some b)) (fun wr => s.size - placeOf wr b)
  case atStart => exact ⟨i, hi, ⟨c0, c1, f0, f1, lt⟩, hE, (by repeat (first | exact World.grownBy.refl _ _ | apply grown_drawN | apply grown_drew | apply grown_set | exact hB))⟩
  case round =>
    clear c0 c1 f0 f1 lt hE
    obtain ⟨k, hk, hc, hE, hB⟩ := hrel
    have hp2 := hc.place
    by_cases hlt : k < s.size
    · have b0 := (s[k]).toNat_lt
      have i0 : (0 : Int) ≤ (k : Int) := by omega
      have i1 : (k : Int) < (s.size : Int) := by omega
      have hy := spanEnd_yes runB hlt
      have hn := spanEnd_no runB hlt
      have hl := fun w => atom_calls s[k].toNat w (by omega) (by omega)
      unfold runB at hy hn
      generalize atomB s[k].toNat = at_ at hl hy hn
      have hl := Lib.hid hl
      obtain ⟨c0, c1, f0, f1, lt⟩ := hc
      by_cases h1 : at_ = true ∨ s[k].toNat = 46
      · have hq := Lib.hid ((hy (by rcases h1 with h1 | h1 <;> simp [h1])).symm.trans hE)
        clear hn hy hE
        rcases (by cases at_ <;> simp_all : at_ = true ∨ (at_ = false ∧ s[k].toNat = 46)) with rfl | ⟨rfl, h2⟩
        · clear h1
          go_wp2
          go_quiet ((go_at_call 192; exact quiet_eq (hl.out _)))
          go_wp2
          go_roundw
          case rel => exact ⟨k + 1, by omega, Cur.set (Cur.drawN ⟨c0, c1, f0, f1, lt⟩ _) (k + 1), hq.out, (by repeat (first | exact World.grownBy.refl _ _ | apply grown_drawN | apply grown_drew | apply grown_set | exact hB))⟩
          case measure => rw [hp2, place_next (Cur.mk c0 c1 f0 f1 lt)]; omega
        · have e1 : ((s[k].toNat : Int) == 46) = true := by rw [beq_iff_eq]; omega
          clear h1 h2
          go_wp2
          go_quiet ((go_at_call 192; exact quiet_eq (hl.out _)))
          go_wp2
          go_roundw
          case rel => exact ⟨k + 1, by omega, Cur.set (Cur.drawN ⟨c0, c1, f0, f1, lt⟩ _) (k + 1), hq.out, (by repeat (first | exact World.grownBy.refl _ _ | apply grown_drawN | apply grown_drew | apply grown_set | exact hB))⟩
          case measure => rw [hp2, place_next (Cur.mk c0 c1 f0 f1 lt)]; omega
      · obtain ⟨rfl, h2⟩ : at_ = false ∧ s[k].toNat ≠ 46 := ⟨by cases at_ <;> simp_all, fun h => h1 (.inr h)⟩
        obtain rfl : k = E := (hn (by simp; omega)).symm.trans hE
        have e1 : ((s[k].toNat : Int) == 46) = false := by rw [beq_eq_false_iff_ne]; omega
        have i2 : (0 : Int) ≤ (i : Int) := by omega
        have i3 : (i : Int) ≤ (k : Int) := by omega
        have i4 : (k : Int) ≤ (s.size : Int) := by omega
        clear hn hy hE h1 h2
        go_wp2
        go_quiet ((go_at_call 192; exact quiet_eq (hl.out _)))
        go_wp2
        go_quiet (fail)
        go_wp2
        go_ret
        exact ⟨rfl, (by repeat (first | exact (Cur.mk c0 c1 f0 f1 lt) | apply Cur.drawN | apply Cur.drew | apply Cur.set)), (by repeat (first | exact World.grownBy.refl _ _ | apply grown_drawN | apply grown_drew | apply grown_set | exact hB))⟩
    · obtain rfl : k = s.size := by omega
      obtain rfl : s.size = E := by rw [← hE, spanEnd_end _ (by omega)]
      obtain ⟨c0, c1, f0, f1, lt⟩ := hc
      clear hE
      have i2 : (0 : Int) ≤ (i : Int) := by omega
      have i3 : (i : Int) ≤ (s.size : Int) := by omega
      go_wp2
      go_quiet (fail)
      go_wp2
      go_quiet (fail)
      go_wp2
      go_ret
      exact ⟨rfl, (by repeat (first | exact (Cur.mk c0 c1 f0 f1 lt) | apply Cur.drawN | apply Cur.drew | apply Cur.set)), (by repeat (first | exact World.grownBy.refl _ _ | apply grown_drawN | apply grown_drew | apply grown_set | exact hB))⟩
/-- A method that ends at a place, or panics by who.must. -/
def PostQ (w : World) (b : Nat) (s : ByteArray) (R : Option Nat) (e : Ending) (w' : World) : Prop :=
  match R with
  | some k => e = .returned (.tuple #[]) ∧ Cur w' b s k ∧ w.grownBy w' (some b)
  | none => e = .panicked mustP ∧ w.grownBy w' (some b)
set_option maxHeartbeats 1000000 in
set_option maxRecDepth 100000 in
theorem rquoted_calls (b : Nat) (s : ByteArray) (i : Nat) (w : World) (hc : Cur w b s i) (hi : i < s.size) (hs : s.size ≤ 9223372036854775000) :
    Calls Tryd.prog 185 #[.pointer (some ⟨b, 0, none⟩)] w (PostQ w b s (qEnd s (i + 1))) := by
  generalize hR : qEnd s (i + 1) = R
  have hp := hc.place
  obtain ⟨c0, c1, f0, f1, lt⟩ := hc
  go_enter Tryd.func185, Tryd.ntmps185
  go_wp2
  go_loopw [] (fun wr => ∃ k : Nat, k ≤ s.size ∧ Cur wr b s k ∧ qEnd s k = R ∧ w.grownBy wr (some b)) (fun wr => s.size - placeOf wr b)
  case atStart => exact ⟨i + 1, hi, Cur.set ⟨c0, c1, f0, f1, lt⟩ (i + 1), hR, (by repeat (first | exact World.grownBy.refl _ _ | apply grown_drawN | apply grown_drew | apply grown_set | exact hB))⟩
  case round =>
    clear c0 c1 f0 f1 lt hR
    obtain ⟨k, hk, hc, hR, hB⟩ := hrel
    have hp2 := hc.place
    have HN := Lib.hid (fun W hc => rnext_cur b s k W hc hk (by omega))
    by_cases hlt : k < s.size
    · have b0 := (s[k]).toNat_lt
      rw [qEnd, dif_pos hlt] at hR
      rw [nx_in hlt] at HN
      have i1 : (k : Int) < (s.size : Int) := by omega
      by_cases h1 : s[k].toNat = 34
      · rw [if_pos h1] at hR
        subst hR
        have e1 : ((s[k].toNat : Int) != 34) = false := by rw [bne_eq_false_iff_eq]; omega
        clear h1
        go_wp2_with fail
        refine (HN.out _ (by repeat (first | exact hc | apply Cur.drawN | apply Cur.drew | apply Cur.set))).mono ?_
        rintro e w2 ⟨rfl, hc2, hg2⟩
        have h_ := hc2
        obtain ⟨c0, c1, f0, f1, lt⟩ := h_
        go_wp2
        go_end0
        exact ⟨rfl, Cur.set hc2 (k + 1), (by repeat (first | exact World.grownBy.refl _ _ | apply grown_drawN | apply grown_drew | apply grown_set | exact (grown_trans hB hg2)))⟩
      · rw [if_neg h1] at hR
        have e1 : ((s[k].toNat : Int) != 34) = true := by rw [bne_iff_ne]; omega
        by_cases h2 : s[k].toNat = 92
        · rw [if_pos h2] at hR
          have e2 : ((s[k].toNat : Int) == 92) = true := by rw [beq_iff_eq]; omega
          by_cases h3 : k + 1 < s.size
          · rw [if_pos h3] at hR
            have hR := Lib.hid hR
            have i2 : (k : Int) + 1 < (s.size : Int) := by omega
            clear h1 h2
            go_wp2_with fail
            refine (HN.out _ (by repeat (first | exact hc | apply Cur.drawN | apply Cur.drew | apply Cur.set))).mono ?_
            rintro e w2 ⟨rfl, hc2, hg2⟩
            have h_ := hc2
            obtain ⟨c0, c1, f0, f1, lt⟩ := h_
            go_wp2_with fail
            refine (HN.out _ (by repeat (first | exact hc2 | apply Cur.drawN | apply Cur.drew | apply Cur.set))).mono ?_
            rintro e w3 ⟨rfl, hc3, hg3⟩
            have h_ := hc3
            obtain ⟨c0, c1, f0, f1, lt⟩ := h_
            go_wp2_with fail
            go_quiet ((go_at_call 148; exact quiet_eq (must_yes _)))
            go_wp2
            have hc4 := Cur.setI (Cur.drawN (Cur.setI hc3 ((k : Int) + 1) (k + 1) (by omega)) nq) ((k : Int) + 1 + 1) (k + 2) (by omega)
            go_roundw
            case rel => exact ⟨k + 2, by omega, hc4, hR.out, (by repeat (first | exact World.grownBy.refl _ _ | apply grown_drawN | apply grown_drew | apply grown_set | exact (grown_trans hB (grown_trans hg2 hg3))))⟩
            case measure => rw [hp2, hc4.place]; omega
          · rw [if_neg h3] at hR
            subst hR
            have i2 : ¬ (k : Int) + 1 < (s.size : Int) := by omega
            clear h1 h2
            go_wp2_with fail
            refine (HN.out _ (by repeat (first | exact hc | apply Cur.drawN | apply Cur.drew | apply Cur.set))).mono ?_
            rintro e w2 ⟨rfl, hc2, hg2⟩
            have h_ := hc2
            obtain ⟨c0, c1, f0, f1, lt⟩ := h_
            go_wp2_with fail
            refine (HN.out _ (by repeat (first | exact hc2 | apply Cur.drawN | apply Cur.drew | apply Cur.set))).mono ?_
            rintro e w3 ⟨rfl, hc3, hg3⟩
            have h_ := hc3
            obtain ⟨c0, c1, f0, f1, lt⟩ := h_
            go_wp2_with fail
            have hc4 := Cur.setI hc3 ((k : Int) + 1) (k + 1) (by omega)
            refine wp_region_held_drew (S := fun w' => w'.cell? ⟨b, 0, none⟩ = some (.string s) ∧ w'.cell? ⟨b, 1, none⟩ = some (.int .i64 ((k : Int) + 1))) (by kernel_rfl) ⟨by simpa using (hc4).c0, by simpa using (hc4).c1⟩ (fun hHeld => ?_)
            refine wpAnyH_take (i := 0) (oi := { dst := some 29, op := _, type := _, pos := _, after := _, guard := _ }) (v := .pointer (some ⟨b, 0, none⟩)) rfl (by kernel_rfl) (by kernel_rfl) (by kernel_rfl) (fun _ _ _ h => h) (Or.inl ⟨by rfl, by (intro w hSw; (try dsimp only at hSw); first | (go_simp; done) | (go_simp; with_reducible rfl) | (go_simp; omega) | (go_simp; simp [*]; done))⟩) (by assumption) ?_; try simp only [Act.put, List.setIfInBounds_toArray, List.set_cons_zero, List.set_cons_succ]
            refine wpAnyH_take (i := 1) (oi := { dst := some 30, op := _, type := _, pos := _, after := _, guard := _ }) (v := .pointer (some ⟨b, 0, none⟩)) rfl (by kernel_rfl) (by kernel_rfl) (by kernel_rfl) (fun _ _ _ h => h) (Or.inl ⟨by rfl, by (intro w hSw; (try dsimp only at hSw); first | (go_simp; done) | (go_simp; with_reducible rfl) | (go_simp; omega) | (go_simp; simp [*]; done))⟩) (by assumption) ?_; try simp only [Act.put, List.setIfInBounds_toArray, List.set_cons_zero, List.set_cons_succ]
            refine wpAnyH_take (i := 2) (oi := { dst := some 31, op := _, type := _, pos := _, after := _, guard := _ }) (v := .pointer (some ⟨b, 1, none⟩)) rfl (by kernel_rfl) (by kernel_rfl) (by kernel_rfl) (fun _ _ _ h => h) (Or.inl ⟨by rfl, by (intro w hSw; (try dsimp only at hSw); first | (go_simp; done) | (go_simp; with_reducible rfl) | (go_simp; omega) | (go_simp; simp [*]; done))⟩) (by assumption) ?_; try simp only [Act.put, List.setIfInBounds_toArray, List.set_cons_zero, List.set_cons_succ]
            refine wpAnyH_take (i := 3) (oi := { dst := some 32, op := _, type := _, pos := _, after := _, guard := _ }) (v := .int .i64 ((k : Int) + 1)) rfl (by kernel_rfl) (by kernel_rfl) (by kernel_rfl) (fun _ _ _ h => h) (Or.inl ⟨by rfl, by (intro w hSw; (try dsimp only at hSw); first | (go_simp; done) | (go_simp; with_reducible rfl) | (go_simp; omega) | (go_simp; simp [*]; done))⟩) (by assumption) ?_; try simp only [Act.put, List.setIfInBounds_toArray, List.set_cons_zero, List.set_cons_succ]
            refine wpAnyH_take (i := 4) (oi := { dst := some 33, op := _, type := _, pos := _, after := _, guard := _ }) (v := .pointer (some ⟨b, 0, none⟩)) rfl (by kernel_rfl) (by kernel_rfl) (by kernel_rfl) (fun _ _ _ h => h) (Or.inl ⟨by rfl, by (intro w hSw; (try dsimp only at hSw); first | (go_simp; done) | (go_simp; with_reducible rfl) | (go_simp; omega) | (go_simp; simp [*]; done))⟩) (by assumption) ?_; try simp only [Act.put, List.setIfInBounds_toArray, List.set_cons_zero, List.set_cons_succ]
            refine wpAnyH_take (i := 5) (oi := { dst := some 34, op := _, type := _, pos := _, after := _, guard := _ }) (v := .pointer (some ⟨b, 0, none⟩)) rfl (by kernel_rfl) (by kernel_rfl) (by kernel_rfl) (fun _ _ _ h => h) (Or.inl ⟨by rfl, by (intro w hSw; (try dsimp only at hSw); first | (go_simp; done) | (go_simp; with_reducible rfl) | (go_simp; omega) | (go_simp; simp [*]; done))⟩) (by assumption) ?_; try simp only [Act.put, List.setIfInBounds_toArray, List.set_cons_zero, List.set_cons_succ]
            refine wpAnyH_take (i := 6) (oi := { dst := some 35, op := _, type := _, pos := _, after := _, guard := _ }) (v := .pointer (some ⟨b, 0, none⟩)) rfl (by kernel_rfl) (by kernel_rfl) (by kernel_rfl) (fun _ _ _ h => h) (Or.inl ⟨by rfl, by (intro w hSw; (try dsimp only at hSw); first | (go_simp; done) | (go_simp; with_reducible rfl) | (go_simp; omega) | (go_simp; simp [*]; done))⟩) (by assumption) ?_; try simp only [Act.put, List.setIfInBounds_toArray, List.set_cons_zero, List.set_cons_succ]
            refine wpAnyH_take (i := 7) (oi := { dst := some 36, op := _, type := _, pos := _, after := _, guard := _ }) (v := .string s) rfl (by kernel_rfl) (by kernel_rfl) (by kernel_rfl) (fun _ _ _ h => h) (Or.inl ⟨by rfl, by (intro w hSw; (try dsimp only at hSw); first | (go_simp; done) | (go_simp; with_reducible rfl) | (go_simp; omega) | (go_simp; simp [*]; done))⟩) (by assumption) ?_; try simp only [Act.put, List.setIfInBounds_toArray, List.set_cons_zero, List.set_cons_succ]
            refine wpAnyH_take (i := 8) (oi := { dst := some 37, op := _, type := _, pos := _, after := _, guard := _ }) (v := .int .i64 s.size) rfl (by kernel_rfl) (by kernel_rfl) (by kernel_rfl) (fun _ _ _ h => h) (Or.inl ⟨by rfl, by (intro w hSw; (try dsimp only at hSw); first | (go_simp; done) | (go_simp; with_reducible rfl) | (go_simp; omega) | (go_simp; simp [*]; done))⟩) (by assumption) ?_; try simp only [Act.put, List.setIfInBounds_toArray, List.set_cons_zero, List.set_cons_succ]
            refine wpAnyH_take (i := 9) (oi := { dst := some 38, op := _, type := _, pos := _, after := _, guard := _ }) (v := .bool false) rfl (by kernel_rfl) (by kernel_rfl) (by kernel_rfl) (fun _ _ _ h => h) (Or.inl ⟨by rfl, by (intro w hSw; (try dsimp only at hSw); first | (go_simp; done) | (go_simp; with_reducible rfl) | (go_simp; omega) | (go_simp; simp [*]; done))⟩) (by assumption) ?_; try simp only [Act.put, List.setIfInBounds_toArray, List.set_cons_zero, List.set_cons_succ]
            refine wpAnyH_ready (rs := [10]) (by kernel_rfl) (by simp) ?_
            refine AllReadyH.cons (o := { dst := some 39, op := _, type := _, pos := _, after := _, guard := _ }) rfl (fun K hK => ?_) AllReadyH.nil
            go_simp
            go_at_call 148
            refine (must_no _).mono ?_
            rintro e w5 ⟨rfl, rfl⟩
            exact ⟨rfl, rfl, (by repeat (first | exact World.grownBy.refl _ _ | apply grown_drawN | apply grown_drew | apply grown_set | exact (grown_trans hB (grown_trans hg2 hg3))))⟩
        · rw [if_neg h2] at hR
          have e2 : ((s[k].toNat : Int) == 92) = false := by rw [beq_eq_false_iff_ne]; omega
          have hR := Lib.hid hR
          clear h1 h2
          go_wp2_with fail
          refine (HN.out _ (by repeat (first | exact hc | apply Cur.drawN | apply Cur.drew | apply Cur.set))).mono ?_
          rintro e w2 ⟨rfl, hc2, hg2⟩
          have h_ := hc2
          obtain ⟨c0, c1, f0, f1, lt⟩ := h_
          go_wp2_with fail
          refine (HN.out _ (by repeat (first | exact hc2 | apply Cur.drawN | apply Cur.drew | apply Cur.set))).mono ?_
          rintro e w3 ⟨rfl, hc3, hg3⟩
          have h_ := hc3
          obtain ⟨c0, c1, f0, f1, lt⟩ := h_
          go_wp2_with fail
          go_quiet ((go_at_call 148; exact quiet_eq (must_yes _)))
          go_wp2
          have hc4 := Cur.setI (Cur.drawN hc3 nq) ((k : Int) + 1) (k + 1) (by omega)
          go_roundw
          case rel => exact ⟨k + 1, by omega, hc4, hR.out, (by repeat (first | exact World.grownBy.refl _ _ | apply grown_drawN | apply grown_drew | apply grown_set | exact (grown_trans hB (grown_trans hg2 hg3))))⟩
          case measure => rw [hp2, hc4.place]; omega
    · obtain rfl : k = s.size := by omega
      rw [qEnd, dif_neg (by omega)] at hR
      rw [nx_out hlt] at HN
      subst hR
      go_wp2_with fail
      refine (HN.out _ (by repeat (first | exact hc | apply Cur.drawN | apply Cur.drew | apply Cur.set))).mono ?_
      rintro e w2 ⟨rfl, hc2, hg2⟩
      have h_ := hc2
      obtain ⟨c0, c1, f0, f1, lt⟩ := h_
      go_wp2_with fail
      refine (HN.out _ (by repeat (first | exact hc2 | apply Cur.drawN | apply Cur.drew | apply Cur.set))).mono ?_
      rintro e w3 ⟨rfl, hc3, hg3⟩
      have h_ := hc3
      obtain ⟨c0, c1, f0, f1, lt⟩ := h_
      go_wp2_with fail
      refine wp_region_held_drew (S := fun w' => w'.cell? ⟨b, 0, none⟩ = some (.string s) ∧ w'.cell? ⟨b, 1, none⟩ = some (.int .i64 (s.size : Int))) (by kernel_rfl) ⟨by simpa using (hc3).c0, by simpa using (hc3).c1⟩ (fun hHeld => ?_)
      refine wpAnyH_take (i := 0) (oi := { dst := some 29, op := _, type := _, pos := _, after := _, guard := _ }) (v := .pointer (some ⟨b, 0, none⟩)) rfl (by kernel_rfl) (by kernel_rfl) (by kernel_rfl) (fun _ _ _ h => h) (Or.inl ⟨by rfl, by (intro w hSw; (try dsimp only at hSw); first | (go_simp; done) | (go_simp; with_reducible rfl) | (go_simp; omega) | (go_simp; simp [*]; done))⟩) (by assumption) ?_; try simp only [Act.put, List.setIfInBounds_toArray, List.set_cons_zero, List.set_cons_succ]
      refine wpAnyH_take (i := 1) (oi := { dst := some 30, op := _, type := _, pos := _, after := _, guard := _ }) (v := .pointer (some ⟨b, 0, none⟩)) rfl (by kernel_rfl) (by kernel_rfl) (by kernel_rfl) (fun _ _ _ h => h) (Or.inl ⟨by rfl, by (intro w hSw; (try dsimp only at hSw); first | (go_simp; done) | (go_simp; with_reducible rfl) | (go_simp; omega) | (go_simp; simp [*]; done))⟩) (by assumption) ?_; try simp only [Act.put, List.setIfInBounds_toArray, List.set_cons_zero, List.set_cons_succ]
      refine wpAnyH_take (i := 2) (oi := { dst := some 31, op := _, type := _, pos := _, after := _, guard := _ }) (v := .pointer (some ⟨b, 1, none⟩)) rfl (by kernel_rfl) (by kernel_rfl) (by kernel_rfl) (fun _ _ _ h => h) (Or.inl ⟨by rfl, by (intro w hSw; (try dsimp only at hSw); first | (go_simp; done) | (go_simp; with_reducible rfl) | (go_simp; omega) | (go_simp; simp [*]; done))⟩) (by assumption) ?_; try simp only [Act.put, List.setIfInBounds_toArray, List.set_cons_zero, List.set_cons_succ]
      refine wpAnyH_take (i := 3) (oi := { dst := some 32, op := _, type := _, pos := _, after := _, guard := _ }) (v := .int .i64 (s.size : Int)) rfl (by kernel_rfl) (by kernel_rfl) (by kernel_rfl) (fun _ _ _ h => h) (Or.inl ⟨by rfl, by (intro w hSw; (try dsimp only at hSw); first | (go_simp; done) | (go_simp; with_reducible rfl) | (go_simp; omega) | (go_simp; simp [*]; done))⟩) (by assumption) ?_; try simp only [Act.put, List.setIfInBounds_toArray, List.set_cons_zero, List.set_cons_succ]
      refine wpAnyH_take (i := 4) (oi := { dst := some 33, op := _, type := _, pos := _, after := _, guard := _ }) (v := .pointer (some ⟨b, 0, none⟩)) rfl (by kernel_rfl) (by kernel_rfl) (by kernel_rfl) (fun _ _ _ h => h) (Or.inl ⟨by rfl, by (intro w hSw; (try dsimp only at hSw); first | (go_simp; done) | (go_simp; with_reducible rfl) | (go_simp; omega) | (go_simp; simp [*]; done))⟩) (by assumption) ?_; try simp only [Act.put, List.setIfInBounds_toArray, List.set_cons_zero, List.set_cons_succ]
      refine wpAnyH_take (i := 5) (oi := { dst := some 34, op := _, type := _, pos := _, after := _, guard := _ }) (v := .pointer (some ⟨b, 0, none⟩)) rfl (by kernel_rfl) (by kernel_rfl) (by kernel_rfl) (fun _ _ _ h => h) (Or.inl ⟨by rfl, by (intro w hSw; (try dsimp only at hSw); first | (go_simp; done) | (go_simp; with_reducible rfl) | (go_simp; omega) | (go_simp; simp [*]; done))⟩) (by assumption) ?_; try simp only [Act.put, List.setIfInBounds_toArray, List.set_cons_zero, List.set_cons_succ]
      refine wpAnyH_take (i := 6) (oi := { dst := some 35, op := _, type := _, pos := _, after := _, guard := _ }) (v := .pointer (some ⟨b, 0, none⟩)) rfl (by kernel_rfl) (by kernel_rfl) (by kernel_rfl) (fun _ _ _ h => h) (Or.inl ⟨by rfl, by (intro w hSw; (try dsimp only at hSw); first | (go_simp; done) | (go_simp; with_reducible rfl) | (go_simp; omega) | (go_simp; simp [*]; done))⟩) (by assumption) ?_; try simp only [Act.put, List.setIfInBounds_toArray, List.set_cons_zero, List.set_cons_succ]
      refine wpAnyH_take (i := 7) (oi := { dst := some 36, op := _, type := _, pos := _, after := _, guard := _ }) (v := .string s) rfl (by kernel_rfl) (by kernel_rfl) (by kernel_rfl) (fun _ _ _ h => h) (Or.inl ⟨by rfl, by (intro w hSw; (try dsimp only at hSw); first | (go_simp; done) | (go_simp; with_reducible rfl) | (go_simp; omega) | (go_simp; simp [*]; done))⟩) (by assumption) ?_; try simp only [Act.put, List.setIfInBounds_toArray, List.set_cons_zero, List.set_cons_succ]
      refine wpAnyH_take (i := 8) (oi := { dst := some 37, op := _, type := _, pos := _, after := _, guard := _ }) (v := .int .i64 s.size) rfl (by kernel_rfl) (by kernel_rfl) (by kernel_rfl) (fun _ _ _ h => h) (Or.inl ⟨by rfl, by (intro w hSw; (try dsimp only at hSw); first | (go_simp; done) | (go_simp; with_reducible rfl) | (go_simp; omega) | (go_simp; simp [*]; done))⟩) (by assumption) ?_; try simp only [Act.put, List.setIfInBounds_toArray, List.set_cons_zero, List.set_cons_succ]
      refine wpAnyH_take (i := 9) (oi := { dst := some 38, op := _, type := _, pos := _, after := _, guard := _ }) (v := .bool false) rfl (by kernel_rfl) (by kernel_rfl) (by kernel_rfl) (fun _ _ _ h => h) (Or.inl ⟨by rfl, by (intro w hSw; (try dsimp only at hSw); first | (go_simp; done) | (go_simp; with_reducible rfl) | (go_simp; omega) | (go_simp; simp [*]; done))⟩) (by assumption) ?_; try simp only [Act.put, List.setIfInBounds_toArray, List.set_cons_zero, List.set_cons_succ]
      refine wpAnyH_ready (rs := [10]) (by kernel_rfl) (by simp) ?_
      refine AllReadyH.cons (o := { dst := some 39, op := _, type := _, pos := _, after := _, guard := _ }) rfl (fun K hK => ?_) AllReadyH.nil
      go_simp
      go_at_call 148
      refine (must_no _).mono ?_
      rintro e w5 ⟨rfl, rfl⟩
      exact ⟨rfl, rfl, (by repeat (first | exact World.grownBy.refl _ _ | apply grown_drawN | apply grown_drew | apply grown_set | exact (grown_trans hB (grown_trans hg2 hg3))))⟩
end Go.Proofs.YtijdghplfhfpaaaDoor.H

/- Lists of addresses: the reader's bare address: the walk. -/
namespace Go.Proofs.YtijdghplfhfpaaaDoor.H
open Go.RowKit Go.Proofs.YtijdghplfhfpaaaDoorW.PrintWords Go.Proofs.YtijdghplfhfpaaaDoorW.PrintLast Go.Proofs.YtijdghplfhfpaaaDoor.U
set_option linter.unusedVariables false
set_option linter.unusedSimpArgs false
def okAddr (a b : ByteArray) : Bool := decide (addrFault a b = 0)
/-- A method that hands back an address and ends at a place, or panics by who.must. -/
def PostB (w : World) (b : Nat) (s : ByteArray) (R : Option (AAddress × Nat)) (e : Ending) (w' : World) : Prop :=
  match R with
  | some (a, d) => e = .returned (.agg #[.string a.loc, .string a.dom]) ∧ Cur w' b s d ∧ w.grownBy w' (some b)
  | none => e = .panicked mustP ∧ w.grownBy w' (some b)
set_option maxHeartbeats 1000000 in
set_option maxRecDepth 100000 in
theorem rbare_calls (b : Nat) (s loc : ByteArray) (i : Nat) (m : Int) (w : World) (hc : Cur w b s i) (hi : i ≤ s.size) (hs : s.size ≤ 1048576) (hl : loc.size ≤ 1048576) (hm : w.cell? ⟨6, 0, none⟩ = some (.int .i64 m)) (hg : 6 < b) :
    Calls Tryd.prog 186 #[.pointer (some ⟨b, 0, none⟩), .string loc] w (PostB w b s (bareP okAddr s i loc)) := by
  generalize hR : bareP okAddr s i loc = R
  unfold bareP at hR
  have HN := Lib.hid (fun W hc => rnext_cur b s i W hc hi (by omega))
  have ltb := hc.lt
  have hgw : 6 < w.heap.size := by omega
  by_cases h1 : nx s i = 64
  · rw [if_pos h1] at hR
    have hlt := nx_lt (s := s) (i := i) (by rw [h1]; decide)
    have HRn := Lib.hid (fun W hc => rrun_calls b s (i + 1) W hc hlt (by omega))
    have hd := span_le runB s (i + 1) (by omega)
    rw [h1] at HN
    generalize spanEnd runB s (i + 1) = d at *
    have hz : (s.extract (i + 1) d).size ≤ 1048576 := by rw [ext_size hd]; omega
    have HC := fun W hm hg => check_calls loc (s.extract (i + 1) d) m W hl hz hm hg
    unfold okAddr at hR
    generalize addrFault loc (s.extract (i + 1) d) = f at *
    generalize s.extract (i + 1) d = dom at *
    have HC := Lib.hid HC
    go_enter Tryd.func186, Tryd.ntmps186
    go_wp2_with fail
    refine (HN.out _ (hc.alloc _)).mono ?_
    rintro e w2 ⟨rfl, hc2, hg2⟩
    have k2 := (Blk.made w #[.string ⟨#[]⟩, .string ⟨#[]⟩] 49).grown hg2 (by first | (simp; done) | (simp; omega) | omega)
    have m2 := grown_cell hg2 (cell_alloc hm hgw _) (by first | (simp; done) | (simp; omega) | omega) (by first | (simp; done) | (simp; omega) | omega)
    have z2 := hg2.size
    simp at z2
    go_wp2_with fail
    refine (must_yes _).mono ?_
    rintro e w2' ⟨rfl, rfl⟩
    have hc3 := hc2.setI ((i : Int) + 1) (i + 1) (by omega)
    have k3 := k2.other (c := b) (j := 1) (by omega) (.int .i64 ((i : Int) + 1))
    have m3 := cell_other (c := b) (j := 1) m2 (by omega) (.int .i64 ((i : Int) + 1))
    obtain ⟨c0, c1, f0, f1, lt2⟩ := hc2
    go_wp2_with fail
    refine (HRn.out _ hc3).mono ?_
    rintro e w3 ⟨rfl, hc4, hg4⟩
    have k4 := k3.grown hg4 (by first | (simp; done) | (simp; omega) | omega)
    have m4 := grown_cell hg4 m3 (by first | (simp; done) | (simp; omega) | omega) (by first | (simp; done) | (simp; omega) | omega)
    have z4 := hg4.size
    simp at z4
    go_wp2_with fail
    refine (HC.out _ (cell_alloc m4 (by omega) _) (by first | (simp; done) | (simp; omega) | omega)).mono ?_
    rintro e w5 ⟨rfl, hb5⟩
    have k5 := (k4.alloc (.cells #[.string loc, .string dom] 49)).below hb5 (by first | (simp; done) | (simp; omega) | omega)
    have l5 := (Blk.made w3 #[.string loc, .string dom] 49).below hb5 (by simp)
    have hc5 := (hc4.alloc (.cells #[.string loc, .string dom] 49)).below hb5 (by first | (simp; done) | (simp; omega) | omega)
    have z5 := hb5.size
    simp at z5
    have gg : w.grownBy w5 (some b) := grown_more (w1 := w3.alloc (.cells #[.string loc, .string dom] 49)) (grown_alloc (grown_trans (grown_set (grown_trans (grown_alloc (World.grownBy.refl _ _) _) hg2) _ _) hg4) _) hb5 (by first | (simp; done) | (simp; omega) | omega)
    have q0 := k5.at 0 _ rfl
    have q1 := k5.at 1 _ rfl
    have p0 := k5.free 0 _ rfl
    have p1 := k5.free 1 _ rfl
    have r0 := l5.at 0 _ rfl
    have r1 := l5.at 1 _ rfl
    by_cases hf : f = 0
    · subst hf
      simp at hR
      subst hR
      go_wp2_with fail
      refine (must_yes _).mono ?_
      rintro e w2' ⟨rfl, rfl⟩
      go_wp2_with fail
      refine bodyPost_ret (v := .agg #[.string loc, .string dom]) (by simp [results, Tryd.results186, go_sem, *]) rfl ?_
      exact ⟨rfl, ((hc5.other (by first | (simp; done) | (simp; omega) | omega) _).other (by first | (simp; done) | (simp; omega) | omega) _), (by repeat (first | exact World.grownBy.refl _ _ | apply grown_drawN | apply grown_drew | apply grown_set | apply grown_alloc | (refine grown_new ?_ (by first | (simp; done) | (simp; omega) | omega) _ _) | exact gg))⟩
    · simp [hf] at hR
      subst hR
      have e1 : (f == 0) = false := by rw [beq_eq_false_iff_ne]; exact hf
      go_wp2_with fail
      refine (must_no _).mono ?_
      rintro e w2' ⟨rfl, rfl⟩
      go_wp2_with fail
      exact ⟨rfl, rfl, gg⟩
  · rw [if_neg h1] at hR
    subst hR
    have e1 : (nx s i == 64) = false := by rw [beq_eq_false_iff_ne]; exact h1
    clear h1
    generalize nx s i = x at *
    go_enter Tryd.func186, Tryd.ntmps186
    go_wp2_with fail
    refine (HN.out _ (hc.alloc _)).mono ?_
    rintro e w2 ⟨rfl, hc2, hg2⟩
    go_wp2_with fail
    refine (must_no _).mono ?_
    rintro e w2' ⟨rfl, rfl⟩
    go_wp2_with fail
    exact ⟨rfl, rfl, grown_trans (grown_alloc (World.grownBy.refl _ _) _) hg2⟩
end Go.Proofs.YtijdghplfhfpaaaDoor.H

/- Lists of addresses: the reader's address: the walk. -/
namespace Go.Proofs.YtijdghplfhfpaaaDoor.H
open Go.RowKit Go.Proofs.YtijdghplfhfpaaaDoorW.PrintWords Go.Proofs.YtijdghplfhfpaaaDoorW.PrintLast Go.Proofs.YtijdghplfhfpaaaDoor.U
set_option linter.unusedVariables false
set_option linter.unusedSimpArgs false
theorem bare_le {ok : ByteArray → ByteArray → Bool} {s loc : ByteArray} {e d : Nat} {a : AAddress} (h : bareP ok s e loc = some (a, d)) : d ≤ s.size := by
  unfold bareP at h
  split at h
  · rename_i h64
    have := nx_lt (s := s) (i := e) (by rw [h64]; decide)
    split at h
    · cases h; exact span_le runB s _ (by omega)
    · cases h
  · cases h
set_option maxHeartbeats 1000000 in
set_option maxRecDepth 100000 in
theorem raddress_calls (b : Nat) (s : ByteArray) (i : Nat) (m : Int) (w : World) (hc : Cur w b s i) (hi : i ≤ s.size) (hs : s.size ≤ 1048576) (hm : w.cell? ⟨6, 0, none⟩ = some (.int .i64 m)) (hg : 6 < b) :
    Calls Tryd.prog 146 #[.pointer (some ⟨b, 0, none⟩)] w (PostB w b s (addrP okAddr s i true)) := by
  generalize hR : addrP okAddr s i true = R
  have ltb := hc.lt
  have hne : some w.heap.size ≠ some b := by simp; omega
  have hM : ∀ W, w.grownBy W (some b) → W.cell? ⟨6, 0, none⟩ = some (.int .i64 m) := fun W h => grown_cell h hm (by omega) (by simp; omega)
  have hM := Lib.hid hM
  clear hm
  go_enter Tryd.func146, Tryd.ntmps146
  go_wp2_with fail
  go_loopw [3] (fun v wr => ∃ k i' : Nat, k ≤ i' ∧ i' ≤ s.size ∧ v = .int .i64 k ∧ Cur wr b s i' ∧ addrP okAddr s i' (decide (k = 0)) = R ∧ Blk wr w.heap.size [.string ⟨#[]⟩, .string ⟨#[]⟩] ∧ w.grownBy wr (some b)) (fun _ wr => s.size - placeOf wr b)
  case atStart => exact ⟨0, i, Nat.zero_le _, hi, rfl, hc.alloc _, hR, Blk.made _ _ _, World.grownBy_alloc _ _ _⟩
  case round =>
    clear hc hR
    obtain ⟨k, i', hk, hi', rfl, hc, hR, k0, gg0⟩ := hrel
    have hp2 := hc.place
    have HS := Lib.hid (fun W hc => rskip_calls b s i' W hc hi' (by omega))
    have hj1 := span_ge blankB s i' hi'
    have hj2 := span_le blankB s i' hi'
    have HN := Lib.hid (fun W hc => rnext_cur b s (spanEnd blankB s i') W hc hj2 (by omega))
    rw [addrP] at hR
    generalize spanEnd blankB s i' = j at *
    by_cases h1 : nx s j = 34
    · rw [if_pos h1] at hR
      rw [h1] at HN
      have hjl := nx_lt (s := s) (i := j) (by rw [h1]; decide)
      have HQ := fun W hc => rquoted_calls b s j W hc hjl (by omega)
      have hq := fun k => qEnd_gt s _ (j + 1) k (Nat.le_refl _)
      clear h1
      generalize qEnd s (j + 1) = qe at *
      have HQ := Lib.hid HQ
      cases qe with
      | none =>
        simp only at hR
        subst hR
        go_wp2_with fail
        refine (HS.out _ hc).mono ?_
        rintro e w1 ⟨rfl, hc1, g1⟩
        have gg1 := grown_trans gg0 g1
        have k1 := k0.grown g1 hne
        go_wp2_with fail
        refine (HN.out _ hc1).mono ?_
        rintro e w2 ⟨rfl, hc2, g2⟩
        have gg2 := grown_trans gg1 g2
        have k2 := k1.grown g2 hne
        go_wp2_with fail
        refine (HQ.out _ hc2).mono ?_
        intro e w3 h3
        obtain ⟨rfl, g3⟩ : _ ∧ _ := h3
        go_wp2_with fail
        exact ⟨rfl, rfl, grown_trans gg2 g3⟩
      | some q =>
        have hq := hq q rfl
        simp only at hR
        rw [if_pos ⟨by omega, hq.2⟩] at hR
        have hR := Lib.hid hR
        go_wp2_with fail
        refine (HS.out _ hc).mono ?_
        rintro e w1 ⟨rfl, hc1, g1⟩
        have gg1 := grown_trans gg0 g1
        have k1 := k0.grown g1 hne
        go_wp2_with fail
        refine (HN.out _ hc1).mono ?_
        rintro e w2 ⟨rfl, hc2, g2⟩
        have gg2 := grown_trans gg1 g2
        have k2 := k1.grown g2 hne
        go_wp2_with fail
        refine (HQ.out _ hc2).mono ?_
        intro e w3 h3
        obtain ⟨rfl, hc3, g3⟩ : _ ∧ _ ∧ _ := h3
        have gg3 := grown_trans gg2 g3
        have k3 := k2.grown g3 hne
        go_wp2_with fail
        go_roundw
        case rel => exact ⟨k + 1, q, by omega, hq.2, by go_num, hc3, by simpa using hR.out, k3, gg3⟩
        case measure => rw [hp2, hc3.place]; omega
    · rw [if_neg h1] at hR
      by_cases h2 : nx s j = 60
      · rw [if_pos h2] at hR
        rw [h2] at HN
        have hjl := nx_lt (s := s) (i := j) (by rw [h2]; decide)
        have HRn := Lib.hid (fun W hc => rrun_calls b s (j + 1) W hc hjl (by omega))
        unfold angP at hR
        have he := span_le runB s (j + 1) (by omega)
        generalize spanEnd runB s (j + 1) = e1 at *
        have hz : (s.extract (j + 1) e1).size ≤ 1048576 := by rw [ext_size he]; omega
        have HB := fun W hc hm => rbare_calls b s (s.extract (j + 1) e1) e1 m W hc he hs hz hm hg
        have hbl := fun a d => bare_le (ok := okAddr) (s := s) (e := e1) (loc := s.extract (j + 1) e1) (a := a) (d := d)
        generalize bareP okAddr s e1 (s.extract (j + 1) e1) = B at *
        generalize s.extract (j + 1) e1 = loc at *
        have HB := Lib.hid HB
        clear h1 h2
        go_wp2_with fail
        refine (HS.out _ hc).mono ?_
        rintro e w1 ⟨rfl, hc1, g1⟩
        have gg1 := grown_trans gg0 g1
        have k1 := k0.grown g1 hne
        go_wp2_with fail
        refine (HN.out _ hc1).mono ?_
        rintro e w2 ⟨rfl, hc2, g2⟩
        have gg2 := grown_trans gg1 g2
        have k2 := k1.grown g2 hne
        have hcA := hc2.setI ((j : Int) + 1) (j + 1) (by omega)
        have kA := k2.other (c := b) (j := 1) (by first | (simp; done) | (simp; omega) | omega) (.int .i64 ((j : Int) + 1))
        have ggA := grown_set gg2 1 (.int .i64 ((j : Int) + 1))
        obtain ⟨c0, c1, f0, f1, lt2⟩ := hc2
        go_wp2_with fail
        refine (HRn.out _ hcA).mono ?_
        rintro e w3 ⟨rfl, hc3, g3⟩
        have gg3 := grown_trans ggA g3
        have k3 := kA.grown g3 hne
        cases B with
        | none =>
          simp only at hR
          subst hR
          go_wp2_with fail
          refine (HB.out _ hc3 (hM.out _ gg3)).mono ?_
          intro e w4 h4
          obtain ⟨rfl, g4⟩ : _ ∧ _ := h4
          go_wp2_with fail
          exact ⟨rfl, rfl, grown_trans gg3 g4⟩
        | some x =>
          obtain ⟨a, d⟩ := x
          have hd := hbl a d rfl
          simp only at hR
          have HN2 := Lib.hid (fun W hc => rnext_cur b s d W hc hd (by omega))
          go_wp2_with fail
          refine (HB.out _ hc3 (hM.out _ gg3)).mono ?_
          intro e w4 h4
          obtain ⟨rfl, hc4, g4⟩ : _ ∧ _ ∧ _ := h4
          have gg4 := grown_trans gg3 g4
          have k4 := k3.grown g4 hne
          have z4 := gg4.size
          have kB := k4.alloc (.cells #[.string a.loc, .string a.dom] 49)
          have lB := Blk.made w4 #[.string a.loc, .string a.dom] 49
          have hcB := hc4.alloc (.cells #[.string a.loc, .string a.dom] 49)
          have ggB := grown_alloc gg4 (.cells #[.string a.loc, .string a.dom] 49)
          have lt4 := hc4.lt
          by_cases h62 : nx s d = 62
          · rw [if_pos h62] at hR
            subst hR
            rw [h62] at HN2
            go_wp2_with fail
            refine (HN2.out _ hcB).mono ?_
            rintro e w5 ⟨rfl, hc5, g5⟩
            have gg5 := grown_trans ggB g5
            have k5 := kB.grown g5 hne
            have l5 := lB.grown g5 (by first | (simp; done) | (simp; omega) | omega)
            go_wp2_with fail
            refine (must_yes _).mono ?_
            rintro e w5' ⟨rfl, rfl⟩
            have hc6 := hc5.setI ((d : Int) + 1) (d + 1) (by omega)
            have k6 := k5.other (c := b) (j := 1) (by first | (simp; done) | (simp; omega) | omega) (.int .i64 ((d : Int) + 1))
            have l6 := l5.other (c := b) (j := 1) (by first | (simp; done) | (simp; omega) | omega) (.int .i64 ((d : Int) + 1))
            have gg6 := grown_set gg5 1 (.int .i64 ((d : Int) + 1))
            obtain ⟨c0, c1, f0, f1, lt2⟩ := hc5
            have q0 := k5.at 0 _ rfl
            have q1 := k5.at 1 _ rfl
            have p0 := k5.free 0 _ rfl
            have p1 := k5.free 1 _ rfl
            have r0 := l5.at 0 _ rfl
            have r1 := l5.at 1 _ rfl
            have n1 : ¬ b = w.heap.size := by omega
            have n2 : ¬ b = w4.heap.size := by omega
            have n3 : ¬ w.heap.size = b := by omega
            have n4 : ¬ w4.heap.size = b := by omega
            go_wp2_with fail
            refine bodyPost_ret (v := .agg #[.string a.loc, .string a.dom]) (by simp [results, Tryd.results146, go_sem, *]) rfl ?_
            exact ⟨rfl, ((hc6.other (by first | (simp; done) | (simp; omega) | omega) _).other (by first | (simp; done) | (simp; omega) | omega) _), (by repeat (first | exact World.grownBy.refl _ _ | apply grown_drawN | apply grown_drew | apply grown_set | apply grown_alloc | (refine grown_new ?_ (by first | (simp; done) | (simp; omega) | omega) _ _) | exact gg5))⟩
          · rw [if_neg h62] at hR
            subst hR
            have e1 : (nx s d == 62) = false := by rw [beq_eq_false_iff_ne]; exact h62
            clear h62
            generalize nx s d = x at *
            go_wp2_with fail
            refine (HN2.out _ hcB).mono ?_
            rintro e w5 ⟨rfl, hc5, g5⟩
            have gg5 := grown_trans ggB g5
            have k5 := kB.grown g5 hne
            go_wp2_with fail
            refine (must_no _).mono ?_
            rintro e w5' ⟨rfl, rfl⟩
            go_wp2_with fail
            exact ⟨rfl, rfl, gg5⟩
      · rw [if_neg h2] at hR
        have e1 : (nx s j == 34) = false := by rw [beq_eq_false_iff_ne]; exact h1
        have e2 : (nx s j == 60) = false := by rw [beq_eq_false_iff_ne]; exact h2
        clear h1 h2
        generalize nx s j = x at *
        have HRn := Lib.hid (fun W hc => rrun_calls b s j W hc hj2 (by omega))
        have he := span_le runB s j hj2
        have he1 := span_ge runB s j hj2
        generalize spanEnd runB s j = e1 at *
        have HN2 := Lib.hid (fun W hc => rnext_cur b s e1 W hc he (by omega))
        have hz : (s.extract j e1).size ≤ 1048576 := by rw [ext_size he]; omega
        have HB := fun W hc hm => rbare_calls b s (s.extract j e1) e1 m W hc he hs hz hm hg
        have hbl := fun a d => bare_le (ok := okAddr) (s := s) (e := e1) (loc := s.extract j e1) (a := a) (d := d)
        generalize bareP okAddr s e1 (s.extract j e1) = B at *
        have hem : j < e1 → (s.extract j e1) ≠ ⟨[].toArray⟩ := fun h he' => by
          have := congrArg ByteArray.size he'
          rw [ext_size he] at this
          have h0 : (⟨[].toArray⟩ : ByteArray).size = 0 := rfl
          omega
        have hem2 : ¬ j < e1 → (s.extract j e1) = ⟨[].toArray⟩ := fun h => by
          rw [show e1 = j by omega]; apply ByteArray.ext; simp
        generalize s.extract j e1 = loc at *
        have HB := Lib.hid HB
        by_cases hA : k = 0 ∧ nx s e1 = 64
        · obtain ⟨rfl, h64⟩ := hA
          rw [if_pos ⟨by simp, h64⟩] at hR
          rw [h64] at HN2
          clear hem hem2
          subst hR
          clear h64
          go_wp2_with fail
          refine (HS.out _ hc).mono ?_
          rintro e w1 ⟨rfl, hc1, g1⟩
          have gg1 := grown_trans gg0 g1
          have k1 := k0.grown g1 hne
          go_wp2_with fail
          refine (HN.out _ hc1).mono ?_
          rintro e w2 ⟨rfl, hc2, g2⟩
          have gg2 := grown_trans gg1 g2
          have k2 := k1.grown g2 hne
          go_wp2_with fail
          refine (HRn.out _ hc2).mono ?_
          rintro e w3 ⟨rfl, hc3, g3⟩
          have gg3 := grown_trans gg2 g3
          have k3 := k2.grown g3 hne
          go_wp2_with fail
          refine (HN2.out _ hc3).mono ?_
          rintro e w4 ⟨rfl, hc4, g4⟩
          have gg4 := grown_trans gg3 g4
          have k4 := k3.grown g4 hne
          go_wp2_with fail
          refine (HB.out _ hc4 (hM.out _ gg4)).mono ?_
          intro e w5 h5
          cases B with
          | none =>
            obtain ⟨rfl, g5⟩ : _ ∧ _ := h5
            go_wp2_with fail
            exact ⟨rfl, rfl, grown_trans gg4 g5⟩
          | some x =>
            obtain ⟨a, d⟩ := x
            obtain ⟨rfl, hc5, g5⟩ : _ ∧ _ ∧ _ := h5
            have k5 := k4.grown g5 hne
            have gg5 := grown_trans gg4 g5
            have q0 := k5.at 0 _ rfl
            have q1 := k5.at 1 _ rfl
            have p0 := k5.free 0 _ rfl
            have p1 := k5.free 1 _ rfl
            go_wp2_with fail
            refine bodyPost_ret (v := .agg #[.string a.loc, .string a.dom]) (by simp [results, Tryd.results146, go_sem, *]) rfl ?_
            exact ⟨rfl, ((hc5.other (by first | (simp; done) | (simp; omega) | omega) _).other (by first | (simp; done) | (simp; omega) | omega) _), (by repeat (first | exact World.grownBy.refl _ _ | apply grown_drawN | apply grown_drew | apply grown_set | apply grown_alloc | (refine grown_new ?_ (by first | (simp; done) | (simp; omega) | omega) _ _) | exact gg5))⟩
        · rw [if_neg (fun h => hA ⟨by simpa using h.1, h.2⟩)] at hR
          clear HB hbl
          rcases (Decidable.em (nx s e1 = 64)).elim (fun h => Or.inr (And.intro h fun h0 => hA ⟨h0, h⟩)) Or.inl with h64 | ⟨h64, hk0⟩
          · have e3 : (nx s e1 == 64) = false := by rw [beq_eq_false_iff_ne]; exact h64
            clear h64 hA
            generalize nx s e1 = y at *
            by_cases hje : j < e1
            · rw [if_pos ⟨hje, by omega, he⟩] at hR
              have q1 := lit_no (hem hje)
              have hR := Lib.hid hR
              clear hem hem2
              go_wp2_with fail
              refine (HS.out _ hc).mono ?_
              rintro e w1 ⟨rfl, hc1, g1⟩
              have gg1 := grown_trans gg0 g1
              have k1 := k0.grown g1 hne
              go_wp2_with fail
              refine (HN.out _ hc1).mono ?_
              rintro e w2 ⟨rfl, hc2, g2⟩
              have gg2 := grown_trans gg1 g2
              have k2 := k1.grown g2 hne
              go_wp2_with fail
              refine (HRn.out _ hc2).mono ?_
              rintro e w3 ⟨rfl, hc3, g3⟩
              have gg3 := grown_trans gg2 g3
              have k3 := k2.grown g3 hne
              go_wp2_with fail
              refine (HN2.out _ hc3).mono ?_
              rintro e w4 ⟨rfl, hc4, g4⟩
              have gg4 := grown_trans gg3 g4
              have k4 := k3.grown g4 hne
              go_wp2_with fail
              refine (must_yes _).mono ?_
              rintro e w5' ⟨rfl, rfl⟩
              go_wp2_with fail
              go_roundw
              case rel => exact ⟨k + 1, e1, by omega, he, by go_num, hc4, by simpa using hR.out, k4, gg4⟩
              case measure => rw [hp2, hc4.place]; omega
            · rw [if_neg (fun h => hje h.1)] at hR
              have q1 := lit_yes (hem2 hje)
              subst hR
              clear hem hem2
              go_wp2_with fail
              refine (HS.out _ hc).mono ?_
              rintro e w1 ⟨rfl, hc1, g1⟩
              have gg1 := grown_trans gg0 g1
              have k1 := k0.grown g1 hne
              go_wp2_with fail
              refine (HN.out _ hc1).mono ?_
              rintro e w2 ⟨rfl, hc2, g2⟩
              have gg2 := grown_trans gg1 g2
              have k2 := k1.grown g2 hne
              go_wp2_with fail
              refine (HRn.out _ hc2).mono ?_
              rintro e w3 ⟨rfl, hc3, g3⟩
              have gg3 := grown_trans gg2 g3
              have k3 := k2.grown g3 hne
              go_wp2_with fail
              refine (HN2.out _ hc3).mono ?_
              rintro e w4 ⟨rfl, hc4, g4⟩
              have gg4 := grown_trans gg3 g4
              have k4 := k3.grown g4 hne
              go_wp2_with fail
              refine (must_no _).mono ?_
              rintro e w5' ⟨rfl, rfl⟩
              go_wp2_with fail
              exact ⟨rfl, rfl, gg4⟩
          · rw [h64] at HN2
            have e3 : ((k : Int) == 0) = false := by rw [beq_eq_false_iff_ne]; omega
            clear h64 hA
            by_cases hje : j < e1
            · rw [if_pos ⟨hje, by omega, he⟩] at hR
              have q1 := lit_no (hem hje)
              have hR := Lib.hid hR
              clear hem hem2
              go_wp2_with fail
              refine (HS.out _ hc).mono ?_
              rintro e w1 ⟨rfl, hc1, g1⟩
              have gg1 := grown_trans gg0 g1
              have k1 := k0.grown g1 hne
              go_wp2_with fail
              refine (HN.out _ hc1).mono ?_
              rintro e w2 ⟨rfl, hc2, g2⟩
              have gg2 := grown_trans gg1 g2
              have k2 := k1.grown g2 hne
              go_wp2_with fail
              refine (HRn.out _ hc2).mono ?_
              rintro e w3 ⟨rfl, hc3, g3⟩
              have gg3 := grown_trans gg2 g3
              have k3 := k2.grown g3 hne
              go_wp2_with fail
              refine (HN2.out _ hc3).mono ?_
              rintro e w4 ⟨rfl, hc4, g4⟩
              have gg4 := grown_trans gg3 g4
              have k4 := k3.grown g4 hne
              go_wp2_with fail
              refine (must_yes _).mono ?_
              rintro e w5' ⟨rfl, rfl⟩
              go_wp2_with fail
              go_roundw
              case rel => exact ⟨k + 1, e1, by omega, he, by go_num, hc4, by simpa using hR.out, k4, gg4⟩
              case measure => rw [hp2, hc4.place]; omega
            · rw [if_neg (fun h => hje h.1)] at hR
              have q1 := lit_yes (hem2 hje)
              subst hR
              clear hem hem2
              go_wp2_with fail
              refine (HS.out _ hc).mono ?_
              rintro e w1 ⟨rfl, hc1, g1⟩
              have gg1 := grown_trans gg0 g1
              have k1 := k0.grown g1 hne
              go_wp2_with fail
              refine (HN.out _ hc1).mono ?_
              rintro e w2 ⟨rfl, hc2, g2⟩
              have gg2 := grown_trans gg1 g2
              have k2 := k1.grown g2 hne
              go_wp2_with fail
              refine (HRn.out _ hc2).mono ?_
              rintro e w3 ⟨rfl, hc3, g3⟩
              have gg3 := grown_trans gg2 g3
              have k3 := k2.grown g3 hne
              go_wp2_with fail
              refine (HN2.out _ hc3).mono ?_
              rintro e w4 ⟨rfl, hc4, g4⟩
              have gg4 := grown_trans gg3 g4
              have k4 := k3.grown g4 hne
              go_wp2_with fail
              refine (must_no _).mono ?_
              rintro e w5' ⟨rfl, rfl⟩
              go_wp2_with fail
              exact ⟨rfl, rfl, gg4⟩
end Go.Proofs.YtijdghplfhfpaaaDoor.H

/- Rows of addresses: the walks. -/
namespace Go.Proofs.YtijdghplfhfpaaaDoor.H
open Go.RowKit Go.Proofs.YtijdghplfhfpaaaDoorW.PrintWords Go.Proofs.YtijdghplfhfpaaaDoorW.PrintLast Go.Proofs.YtijdghplfhfpaaaDoor.U
set_option linter.unusedVariables false
set_option linter.unusedSimpArgs false
theorem rowAAddress : RowT Tryd.prog kAAddress 50 49 32 (.agg #[.string ⟨#[]⟩, .string ⟨#[]⟩]) :=
  ⟨Tryd.underlying50, by kernel_rfl, rfl, by decide, by decide, flat_kd⟩
def eqbAAddress (x y : AAddress) : Bool := x.loc.toList == y.loc.toList && (x.dom.toList == y.dom.toList)
theorem eqbAAddress_iff {x y : AAddress} : eqbAAddress x y = true ↔ x = y := by
  cases x; cases y
  simp only [eqbAAddress, Bool.and_eq_true, beq_iff_eq, ByteArray.toList_eq, bytes_iff, AAddress.mk.injEq]
theorem eqbAAddress_self (x : AAddress) : eqbAAddress x x = true := eqbAAddress_iff.2 rfl
theorem eqAAddress (d : Nat) (w : World) (x_loc : ByteArray) (x_dom : ByteArray) (y_loc : ByteArray) (y_dom : ByteArray) :
    (Op.equalIn (d + 2) 49 (.agg #[.string x_loc, .string x_dom]) (.agg #[.string y_loc, .string y_dom])).run Tryd.prog w = .ok (eqbAAddress ⟨x_loc, x_dom⟩ ⟨y_loc, y_dom⟩) w := by
  refine eqA_of Tryd.underlying49 (by kernel_rfl) ?_
  refine eqf_cons (by rfl) (by go_simp; rfl) (by go_simp; rfl) (by go_simp) ?_
  exact eqf_last (by rfl) (by go_simp; rfl) (by go_simp; rfl) (by go_simp)
attribute [local go_sem high] eqAAddress
attribute [local go_sem high] eqbAAddress_self
attribute [-go_sem] eqbAAddress_self
end Go.Proofs.YtijdghplfhfpaaaDoor.H

/- Lists of addresses: who.List, its deferred closure: the walks. -/
namespace Go.Proofs.YtijdghplfhfpaaaDoor.H
open Go.RowKit Go.Proofs.YtijdghplfhfpaaaDoorW.PrintWords Go.Proofs.YtijdghplfhfpaaaDoorW.PrintLast Go.Proofs.YtijdghplfhfpaaaDoor.U
set_option linter.unusedVariables false
set_option linter.unusedSimpArgs false
/-- The panic of who.must, recovered. -/
def mustR : List PanicEntry := [{ v := .iface 26 (.int .i64 3), recovered := true }]
theorem catch_panicking (bl be : Nat) (v u : Value) (w : World) (hl : Blk w bl [v]) (he : Blk w be [u]) (hne : bl ≠ be) :
    CallsD Tryd.prog 145 #[.pointer (some ⟨bl, 0, none⟩), .pointer (some ⟨be, 0, none⟩)] (.panicking mustP) w fun e u' w' =>
      e = .returned (.tuple #[]) ∧ u' = .panicking mustR ∧ Blk w' bl [.slice none 0 0] ∧ Blk w' be [.int .i64 3] ∧ (∀ B, B ≤ bl → B ≤ be → Below B w w') := by
  have c0 := hl.at 0 _ rfl
  have c1 := he.at 0 _ rfl
  have f0 := hl.free 0 _ rfl
  have f1 := he.free 0 _ rfl
  refine callsD_of_wpS Tryd.func145 rfl fun c₀ cs hu => ?_
  unfold mustP at hu
  apply wpS_seq
  apply wpS_region
  simp [wpOpsS, go_sem, recoverD, hu, Tryd.ntmps145, Exit.thenS]
  refine wpS_of_wp ?_
  rw [show (#[Value.pointer (some ⟨bl, 0, none⟩), Value.pointer (some ⟨be, 0, none⟩)] ++ ((Array.replicate 6 undef).setIfInBounds 1 (Value.iface 26 (Value.int IntKind.i64 3))).setIfInBounds 0 (Value.iface 26 (Value.int IntKind.i64 3)) : Array Value) = #[Value.pointer (some ⟨bl, 0, none⟩), Value.pointer (some ⟨be, 0, none⟩), Value.iface 26 (Value.int IntKind.i64 3), Value.iface 26 (Value.int IntKind.i64 3), undef, undef, undef, undef] from rfl]
  have ht : ∀ w, (Instr.typeAssert (.iface 26 (.int .i64 3)) 20 26 false).run Tryd.prog w = .ok (.int .i64 3) w := fun _ => by kernel_rfl
  go_wp2
  go_region
  refine ⟨rfl, _, rfl, _, by simp [results, Tryd.results145, go_sem], rfl, rfl, ?_, ?_, fun B h1 h2 => ?_⟩
  · exact ((hl.set 0 (.slice none 0 0) (by simp)).other (c := be) (j := 0) (fun h => hne h.symm) (.int .i64 3)).drew
  · exact ((he.other (c := bl) (j := 0) hne (.slice none 0 0)).set 0 (.int .i64 3) (by simp)).drew
  · exact (((Below.refl B w).setCell (p := ⟨bl, 0, none⟩) h1 _).setCell (p := ⟨be, 0, none⟩) h2 _).drew
theorem catch_idle (bl be : Nat) (w : World) :
    CallsD Tryd.prog 145 #[.pointer (some ⟨bl, 0, none⟩), .pointer (some ⟨be, 0, none⟩)] .returning w fun e u' w' => e = .returned (.tuple #[]) ∧ u' = .returning ∧ w' = w := by
  refine callsD_of_wpS Tryd.func145 rfl fun c₀ cs hu => ?_
  apply wpS_seq
  apply wpS_region
  simp [wpOpsS, go_sem, recoverD, hu, Tryd.ntmps145, Exit.thenS]
  refine wpS_of_wp ?_
  rw [show (#[Value.pointer (some ⟨bl, 0, none⟩), Value.pointer (some ⟨be, 0, none⟩)] ++ ((Array.replicate 6 undef).setIfInBounds 1 Value.nilIface).setIfInBounds 0 Value.nilIface : Array Value) = #[Value.pointer (some ⟨bl, 0, none⟩), Value.pointer (some ⟨be, 0, none⟩), Value.nilIface, Value.nilIface, undef, undef, undef, undef] from rfl]
  go_wp2
  exact ⟨rfl, .returning, by cases c₀; simp_all, _, by simp [results, Tryd.results145, go_sem], rfl, rfl, rfl⟩
theorem okAddr_empty : ∀ x, okAddr x ⟨#[]⟩ = false ∧ okAddr ⟨#[]⟩ x = false := by
  intro x
  have h : dotB ⟨#[]⟩ = false := rfl
  constructor
  · simp [okAddr, addrFault, h]
  · simp [okAddr, addrFault, h]
def listRes (R : Option (List AAddress)) : Int × List AAddress :=
  match R with
  | none => (3, [])
  | some l => if 20 < l.length then (5, []) else (0, l)
def listV (s : ByteArray) : Int × List AAddress := if 2000 < s.size then (1, []) else listRes (listP okAddr s 0)
/-- A list of addresses and an Errno are handed back. -/
def PostL (w : World) (r : Int × List AAddress) (e : Ending) (w' : World) : Prop :=
  ∃ v : Value, e = .returned (.tuple #[v, .int .i64 r.1]) ∧ Kd.R kAAddress 49 w' w.heap.size (fun _ => True) v r.2 ∧ Below w.heap.size w w'
set_option maxHeartbeats 1000000 in
set_option maxRecDepth 100000 in
theorem list_calls (s : ByteArray) (m : Int) (w : World) (hs : s.size ≤ 1048576) (hm : w.cell? ⟨6, 0, none⟩ = some (.int .i64 m)) (hg : 6 < w.heap.size) :
    Calls Tryd.prog 87 #[.string s] w (PostL w (listV s)) := by
  have hmf : ∀ (fn : Fn) (first cap : Array Value) (w : World), (Instr.makeFunc fn first cap).run Tryd.prog w = .ok (.func fn first cap) w := fun _ _ _ _ => rfl
  unfold listV
  by_cases hz : 2000 < s.size
  · rw [if_pos hz]
    have hz' : (2000 : Int) < s.size := by omega
    go_enter_defers Tryd.func87, Tryd.ntmps87
    go_wp2
    refine ⟨.tuple #[.slice none 0 0, .int .i64 1], by simp [results, Tryd.results87, go_sem], ?_⟩
    refine ⟨_, rfl, Kd.R_nil _ _ _ _ _, (by repeat (first | exact Below.refl _ _ | apply below_alloc | apply pw_below_drewN | apply below_drew1 | (refine Below.setCell ?_ (by first | (simp; done) | (simp; omega) | omega) _) ))⟩
  · rw [if_neg hz]
    have hz' : ¬ (2000 : Int) < s.size := by omega
    generalize hR : listP okAddr s 0 = R
    go_enter_defers Tryd.func87, Tryd.ntmps87
    go_wp2_with fail
    go_loopw [] (fun wr => ∃ (i : Nat) (acc : List AAddress) (v : Value), i ≤ s.size ∧ Cur wr (w.heap.size + 2) s i ∧ Blk wr w.heap.size [v] ∧ Blk wr (w.heap.size + 1) [.int .i64 0] ∧ Kd.R kAAddress 49 wr (w.heap.size + 3) (fun _ => True) v acc ∧ (listP okAddr s i).map (acc ++ ·) = R ∧ acc.length ≤ i ∧ Below w.heap.size w wr) (fun wr => s.size - placeOf wr (w.heap.size + 2))
    case atStart =>
      refine ⟨0, [], .slice none 0 0, Nat.zero_le _, Cur.made_at _ 0 _ _ (by simp), ((Blk.made w #[.slice none 0 0] _).alloc _).alloc _, (Blk.made_at #[.int .i64 0] _ _ (by simp)).alloc _, Kd.R_nil _ _ _ _ _, ?_, Nat.le_refl _, (by repeat (first | exact Below.refl _ _ | apply below_alloc | apply pw_below_drewN | apply below_drew1 | (refine Below.setCell ?_ (by first | (simp; done) | (simp; omega) | omega) _) ))⟩
      · rw [← hR]; cases listP okAddr s 0 <;> rfl
    case round =>
      clear hR
      obtain ⟨i, acc, v, hi, hc, kl, ke, hRow, hR, hacc, hB⟩ := hrel
      have hp2 := hc.place
      have HA := fun W hc hm => raddress_calls (w.heap.size + 2) s i m W hc hi hs hm (by omega)
      rw [listP] at hR
      have hAg := addr_agree (ok := okAddr) (s := s) okAddr_empty i false hi
      generalize addrP okAddr s i true = A at *
      have HA := Lib.hid HA
      have c0 := kl.at 0 _ rfl
      have hM := cell_below hB hm hg
      cases A with
      | none =>
        simp only [Option.map_none] at hR
        subst hR
        go_wp2_with fail
        refine wp_region_held_drew (S := fun w' => w'.cell? ⟨w.heap.size, 0, none⟩ = some v) (by kernel_rfl) (by simpa using c0) (fun hHeld => ?_)
        refine wpAnyH_take (i := 0) (oi := { dst := some 12, op := _, type := _, pos := _, after := _, guard := _ }) (v := v) rfl (by kernel_rfl) (by kernel_rfl) (by kernel_rfl) (fun _ _ _ h => panic_put (fn := Tryd.f87) (d := 12) (v := v) (by simp [results, Tryd.results87]) h) (Or.inl ⟨by rfl, by (intro w hSw; (try dsimp only at hSw); first | (go_simp; done) | (go_simp; with_reducible rfl) | (go_simp; omega) | (go_simp; simp [*]; done))⟩) (by assumption) ?_; try simp only [Act.put, List.setIfInBounds_toArray, List.set_cons_zero, List.set_cons_succ]
        refine wpAnyH_take (i := 1) (oi := { dst := some 13, op := _, type := _, pos := _, after := _, guard := _ }) (v := .pointer (some ⟨w.heap.size + 2, 0, none⟩)) rfl (by kernel_rfl) (by kernel_rfl) (by kernel_rfl) (fun _ _ _ h => panic_put (fn := Tryd.f87) (d := 13) (v := .pointer (some ⟨w.heap.size + 2, 0, none⟩)) (by simp [results, Tryd.results87]) h) (Or.inl ⟨by rfl, by (intro w hSw; (try dsimp only at hSw); first | (go_simp; done) | (go_simp; with_reducible rfl) | (go_simp; omega) | (go_simp; simp [*]; done))⟩) (by assumption) ?_; try simp only [Act.put, List.setIfInBounds_toArray, List.set_cons_zero, List.set_cons_succ]
        refine wpAnyH_ready (rs := [2]) (by kernel_rfl) (by simp) ?_
        refine AllReadyH.cons (o := { dst := some 14, op := _, type := _, pos := _, after := _, guard := _ }) rfl (fun K hK => ?_) AllReadyH.nil
        go_simp
        go_at_call 146
        refine (HA.out _ hc.drew (by simpa using hM)).mono ?_
        intro e w1 h1
        obtain ⟨rfl, g1⟩ : _ ∧ _ := h1
        go_wp2_with fail
        have bb1 : Below w.heap.size w w1 := below_row2 hB.drew g1
        refine leaves_cons (f := 145) (args := #[.pointer (some ⟨w.heap.size, 0, none⟩), .pointer (some ⟨w.heap.size + 1, 0, none⟩)]) (by simp) (by simp [go_sem]) ?_
        refine (catch_panicking _ _ _ _ _ (kl.drew.grown g1 (by simp)) (ke.drew.grown g1 (by simp)) (by omega)).mono ?_
        rintro e u' w'' ⟨rfl, rfl, h1, h2, h3⟩
        have c1 := h1.at 0 _ rfl
        have c2 := h2.at 0 _ rfl
        simp only [Leaves, settle, mustR, List.dropWhile]
        exact ⟨.tuple #[.slice none 0 0, .int .i64 3], by simp [results, Tryd.results87, go_sem, c1, c2], _, rfl, Kd.R_nil _ _ _ _ _, bb1.trans (h3 _ (by omega) (by omega))⟩
      | some x =>
        obtain ⟨a, j⟩ := x
        simp only at hR
        obtain ⟨A0, cap0, rfl⟩ := Kd.R_slice hRow
        have hlen1 : (acc ++ [a]).length = acc.length + 1 := by simp
        obtain ⟨hij, hj, _⟩ : i < j ∧ j ≤ s.size ∧ _ := hAg
        have HS := Lib.hid (fun W hc => rskip_calls (w.heap.size + 2) s j W hc hj (by omega))
        have hk1 := span_ge blankB s j hj
        have hk2 := span_le blankB s j hj
        have HN := Lib.hid (fun W hc => rnext_cur (w.heap.size + 2) s (spanEnd blankB s j) W hc hk2 (by omega))
        generalize spanEnd blankB s j = k at *
        have hMd : wr.drew.cell? ⟨6, 0, none⟩ = some (.int .i64 m) := by simpa using hM
        go_wp2_with fail
        refine wp_region_held_drew (S := fun _ => True) (by kernel_rfl) trivial (fun hHeld => ?_)
        refine wpAnyH_take (i := 1) (oi := { dst := some 13, op := _, type := _, pos := _, after := _, guard := _ }) (v := .pointer (some ⟨w.heap.size + 2, 0, none⟩)) rfl (by kernel_rfl) (by kernel_rfl) (by kernel_rfl) (fun _ _ _ h => panic_put (fn := Tryd.f87) (d := 13) (v := .pointer (some ⟨w.heap.size + 2, 0, none⟩)) (by simp [results, Tryd.results87]) h) (Or.inl ⟨by rfl, by (intro w hSw; (try dsimp only at hSw); first | (go_simp; done) | (go_simp; with_reducible rfl) | (go_simp; omega) | (go_simp; simp [*]; done))⟩) (by assumption) ?_; try simp only [Act.put, List.setIfInBounds_toArray, List.set_cons_zero, List.set_cons_succ]
        refine wpAnyH_ready (rs := [0, 2]) (by kernel_rfl) (by simp) ?_
        refine AllReadyH.cons (o := { dst := some 12, op := _, type := _, pos := _, after := _, guard := _ }) rfl (fun K hK => ?_) (AllReadyH.cons (o := { dst := some 14, op := _, type := _, pos := _, after := _, guard := _ }) rfl (fun K hK => ?_) AllReadyH.nil)
        · go_simp
          refine hK.out _ _ trivial (fun hHeld => ?_)
          clear hK K
          refine wpAnyH_ready (rs := [2]) (by kernel_rfl) (by simp) ?_
          refine AllReadyH.cons (o := { dst := some 14, op := _, type := _, pos := _, after := _, guard := _ }) rfl (fun K hK => ?_) AllReadyH.nil
          go_simp
          go_at_call 146
          refine (HA.out _ hc.drew hMd).mono ?_
          intro e w1 h1
          obtain ⟨rfl, hc1, g1⟩ : _ ∧ _ ∧ _ := h1
          have bb1 : Below w.heap.size w w1 := below_row2 hB.drew g1
          have kl1 := kl.drew.grown g1 (by simp)
          have ke1 := ke.drew.grown g1 (by simp)
          have hRow1 := R_grownE (Kd.R_drew hRow) g1 (by omega)
          have z1 := g1.size
          have lt1 := hc1.lt
          have d1 := kl1.at 0 _ rfl
          simp only [Result.andThen]
          refine hK.out _ _ trivial (fun hHeld => ?_)
          clear hK K
          refine wpAnyH_ready (rs := [3]) (by kernel_rfl) (by simp) ?_
          refine AllReadyH.cons (o := { dst := some 15, op := _, type := _, pos := _, after := _, guard := _ }) rfl (fun K hK => ?_) AllReadyH.nil
          go_simp
          refine hK.out _ _ trivial (fun hHeld => ?_)
          clear hK K
          refine wpAnyH_ready (rs := [4]) (by kernel_rfl) (by simp) ?_
          refine AllReadyH.cons (o := { dst := some 16, op := _, type := _, pos := _, after := _, guard := _ }) rfl (fun K hK => ?_) AllReadyH.nil
          refine snoc_step rowAAddress (w.heap.size + 3) (by rfl) (.tmp 12) (.tmp 15) (by rfl) (.slice A0 acc.length cap0) acc a [.string a.loc, .string a.dom] (by rfl) (by rfl) rfl hRow1 (by omega) (by omega) ?_
          intro v2 w2 hRow2 hb2 hg2
          obtain ⟨A2, cap2, rfl⟩ := Kd.R_slice hRow2
          have kl2 := kl1.beside hRow1 hg2 (by omega)
          have ke2 := ke1.beside hRow1 hg2 (by omega)
          have hc2 := hc1.kept hg2 (fun he => by obtain ⟨inner, ho⟩ := Kd.R_own hRow1; have := own_base ho _ he.symm; omega)
          have bb2 : Below w.heap.size w w2 := bb1.trans (hb2.mono (by omega))
          have z2 := hb2.size
          have d2 := kl2.at 0 _ rfl
          have f2 := kl2.free 0 _ rfl
          refine hK.out _ _ trivial (fun hHeld => ?_)
          clear hK K
          refine wpAnyH_ready (rs := [5]) (by kernel_rfl) (by simp) ?_
          refine AllReadyH.cons (o := { dst := none, op := _, type := _, pos := _, after := _, guard := _ }) rfl (fun K hK => ?_) AllReadyH.nil
          go_simp
          refine hK.out _ _ trivial (fun hHeld => ?_)
          clear hK K
          refine wpAnyH_done (by kernel_rfl) ?_ _
          rw [hlen1] at hRow2
          have kl3 := kl2.set 0 (.slice A2 (acc.length + 1) cap2) (by simp)
          have ke3 := ke2.other (c := w.heap.size) (j := 0) (by omega) (.slice A2 (acc.length + 1) cap2)
          have hc3 := hc2.other (c := w.heap.size) (j := 0) (by omega) (.slice A2 (acc.length + 1) cap2)
          have hRow3 := R_elder hRow2 (p := ⟨w.heap.size, 0, none⟩) (by first | (simp; done) | (simp; omega) | omega) (.slice A2 (acc.length + 1) cap2)
          have bb3 := bb2.setCell (p := ⟨w.heap.size, 0, none⟩) (Nat.le_refl _) (.slice A2 (acc.length + 1) cap2)
          generalize w2.setCell ⟨w.heap.size, 0, none⟩ (.slice A2 (acc.length + 1) cap2) = w3 at *
          go_wp2_with fail
          refine (HS.out _ hc3).mono ?_
          rintro e w4 ⟨rfl, hc4, g4⟩
          have kl4 := kl3.grown g4 (by simp)
          have ke4 := ke3.grown g4 (by simp)
          have hRow4 := R_grownE hRow3 g4 (by omega)
          have bb4 : Below w.heap.size w w4 := below_row2 bb3 g4
          have hcc := hc4
          obtain ⟨c0, c1, f0, f1, lt⟩ := hcc
          by_cases hkl : k < s.size
          · rw [if_pos hkl] at hR
            have e1 : ((k : Int) == s.size) = false := by rw [beq_eq_false_iff_ne]; omega
            go_wp2_with fail
            go_quiet (fail)
            have hc5 := hc4.drawN nq
            have kl5 := kl4.drawN nq
            have ke5 := ke4.drawN nq
            have hRow5 := Kd.R_drewN hRow4 nq
            have bb5 := pw_below_drewN bb4 nq
            generalize w4.drewN nq = w5 at *
            clear c0 c1 f0 f1 lt hc4 kl4 ke4 hRow4 bb4 g4
            by_cases h44 : nx s k = 44
            · rw [if_pos ⟨h44, by omega⟩] at hR
              rw [h44] at HN
              clear h44
              have hR := Lib.hid hR
              go_wp2_with fail
              refine (HN.out _ hc5).mono ?_
              rintro e w6 ⟨rfl, hc6, g6⟩
              have kl6 := kl5.grown g6 (by simp)
              have ke6 := ke5.grown g6 (by simp)
              have hRow6 := R_grownE hRow5 g6 (by omega)
              have bb6 : Below w.heap.size w w6 := below_row2 bb5 g6
              have hc7 := hc6.setI ((k : Int) + 1) (k + 1) (by omega)
              obtain ⟨c0, c1, f0, f1, lt⟩ := hc6
              go_wp2_with fail
              refine (must_yes _).mono ?_
              rintro e w6' ⟨rfl, rfl⟩
              go_wp2_with fail
              go_roundw
              case rel =>
                refine ⟨k + 1, acc ++ [a], _, hkl, hc7, kl6.other (by first | (simp; done) | (simp; omega) | omega) _, ke6.other (by first | (simp; done) | (simp; omega) | omega) _, R_elder hRow6 (by first | (simp; done) | (simp; omega) | omega) _, ?_, by simp; omega, bb6.setCell (by first | (simp; done) | (simp; omega) | omega) _⟩
                rw [← hR.out]
                cases listP okAddr s (k + 1) <;> simp
              case measure => rw [hp2, hc7.place]; omega
            · rw [if_neg (fun h => h44 h.1)] at hR
              simp only [Option.map_none] at hR
              subst hR
              have e2 : (nx s k == 44) = false := by rw [beq_eq_false_iff_ne]; exact h44
              clear h44
              generalize nx s k = x at *
              go_wp2_with fail
              refine (HN.out _ hc5).mono ?_
              rintro e w6 ⟨rfl, hc6, g6⟩
              have kl6 := kl5.grown g6 (by simp)
              have ke6 := ke5.grown g6 (by simp)
              have bb6 : Below w.heap.size w w6 := below_row2 bb5 g6
              go_wp2_with fail
              refine (must_no _).mono ?_
              rintro e w6' ⟨rfl, rfl⟩
              go_wp2_with fail
              refine leaves_cons (f := 145) (args := #[.pointer (some ⟨w.heap.size, 0, none⟩), .pointer (some ⟨w.heap.size + 1, 0, none⟩)]) (by simp) (by simp [go_sem]) ?_
              refine (catch_panicking _ _ _ _ _ kl6 ke6 (by omega)).mono ?_
              rintro e u' w'' ⟨rfl, rfl, h1, h2, h3⟩
              have c1 := h1.at 0 _ rfl
              have c2 := h2.at 0 _ rfl
              simp only [Leaves, settle, mustR, List.dropWhile]
              exact ⟨.tuple #[.slice none 0 0, .int .i64 3], by simp [results, Tryd.results87, go_sem, c1, c2], _, rfl, Kd.R_nil _ _ _ _ _, bb6.trans (h3 _ (by omega) (by omega))⟩
          · rw [if_neg hkl] at hR
            simp only [Option.map_some] at hR
            subst hR
            obtain rfl : k = s.size := by omega
            go_wp2_with fail
            go_quiet (fail)
            have kl5 := kl4.drawN nq
            have ke5 := ke4.drawN nq
            have hRow5 := Kd.R_drewN hRow4 nq
            have bb5 := pw_below_drewN bb4 nq
            generalize w4.drewN nq = w5 at *
            clear c0 c1 f0 f1 lt hc4 kl4 ke4 hRow4 bb4 g4
            have d0 := kl5.at 0 _ rfl
            have d1 := ke5.at 0 _ rfl
            have d2 := kl5.free 0 _ rfl
            have d3 := ke5.free 0 _ rfl
            by_cases h20 : 20 < acc.length + 1
            · have h20' : (20 : Int) < (acc.length : Int) + 1 := by omega
              have hres : listRes (some (acc ++ [a])) = (5, []) := by rw [listRes, if_pos (by simp; omega)]
              generalize listRes (some (acc ++ [a])) = res at *
              subst hres
              go_wp2_with fail
              refine leaves_cons (f := 145) (args := #[.pointer (some ⟨w.heap.size, 0, none⟩), .pointer (some ⟨w.heap.size + 1, 0, none⟩)]) (by simp) (by simp [go_sem]) ?_
              refine (catch_idle _ _ _).mono ?_
              rintro e u' w'' ⟨rfl, rfl, rfl⟩
              simp only [Leaves, settle]
              exact ⟨.tuple #[.slice none 0 0, .int .i64 5], by simp [results, Tryd.results87, go_sem, *], _, rfl, Kd.R_nil _ _ _ _ _, by (iterate 2 (refine Below.setCell ?_ (by first | (simp; done) | (simp; omega) | omega) _)); exact bb5⟩
            · have h20' : ¬ (20 : Int) < (acc.length : Int) + 1 := by omega
              have hres : listRes (some (acc ++ [a])) = (0, acc ++ [a]) := by rw [listRes, if_neg (by simp; omega)]
              generalize listRes (some (acc ++ [a])) = res at *
              subst hres
              go_wp2_with fail
              refine leaves_cons (f := 145) (args := #[.pointer (some ⟨w.heap.size, 0, none⟩), .pointer (some ⟨w.heap.size + 1, 0, none⟩)]) (by simp) (by simp [go_sem]) ?_
              refine (catch_idle _ _ _).mono ?_
              rintro e u' w'' ⟨rfl, rfl, rfl⟩
              simp only [Leaves, settle]
              exact ⟨.tuple #[.slice A2 (acc.length + 1) cap2, .int .i64 0], by simp [results, Tryd.results87, go_sem, *], _, rfl, Kd.R_lower (R_elder (R_elder hRow5 (by first | (simp; done) | (simp; omega) | omega) _) (by first | (simp; done) | (simp; omega) | omega) _) (by omega), by (iterate 2 (refine Below.setCell ?_ (by first | (simp; done) | (simp; omega) | omega) _)); exact bb5⟩
        · go_simp
          go_at_call 146
          refine (HA.out _ hc.drew hMd).mono ?_
          intro e w1 h1
          obtain ⟨rfl, hc1, g1⟩ : _ ∧ _ ∧ _ := h1
          have bb1 : Below w.heap.size w w1 := below_row2 hB.drew g1
          have kl1 := kl.drew.grown g1 (by simp)
          have ke1 := ke.drew.grown g1 (by simp)
          have hRow1 := R_grownE (Kd.R_drew hRow) g1 (by omega)
          have z1 := g1.size
          have lt1 := hc1.lt
          have d1 := kl1.at 0 _ rfl
          simp only [Result.andThen]
          refine hK.out _ _ trivial (fun hHeld => ?_)
          clear hK K
          refine wpAnyH_ready (rs := [0, 3]) (by kernel_rfl) (by simp) ?_
          refine AllReadyH.cons (o := { dst := some 12, op := _, type := _, pos := _, after := _, guard := _ }) rfl (fun K hK => ?_) (AllReadyH.cons (o := { dst := some 15, op := _, type := _, pos := _, after := _, guard := _ }) rfl (fun K hK => ?_) AllReadyH.nil)
          · go_simp
            refine hK.out _ _ trivial (fun hHeld => ?_)
            clear hK K
            refine wpAnyH_ready (rs := [3]) (by kernel_rfl) (by simp) ?_
            refine AllReadyH.cons (o := { dst := some 15, op := _, type := _, pos := _, after := _, guard := _ }) rfl (fun K hK => ?_) AllReadyH.nil
            go_simp
            refine hK.out _ _ trivial (fun hHeld => ?_)
            clear hK K
            refine wpAnyH_ready (rs := [4]) (by kernel_rfl) (by simp) ?_
            refine AllReadyH.cons (o := { dst := some 16, op := _, type := _, pos := _, after := _, guard := _ }) rfl (fun K hK => ?_) AllReadyH.nil
            refine snoc_step rowAAddress (w.heap.size + 3) (by rfl) (.tmp 12) (.tmp 15) (by rfl) (.slice A0 acc.length cap0) acc a [.string a.loc, .string a.dom] (by rfl) (by rfl) rfl hRow1 (by omega) (by omega) ?_
            intro v2 w2 hRow2 hb2 hg2
            obtain ⟨A2, cap2, rfl⟩ := Kd.R_slice hRow2
            have kl2 := kl1.beside hRow1 hg2 (by omega)
            have ke2 := ke1.beside hRow1 hg2 (by omega)
            have hc2 := hc1.kept hg2 (fun he => by obtain ⟨inner, ho⟩ := Kd.R_own hRow1; have := own_base ho _ he.symm; omega)
            have bb2 : Below w.heap.size w w2 := bb1.trans (hb2.mono (by omega))
            have z2 := hb2.size
            have d2 := kl2.at 0 _ rfl
            have f2 := kl2.free 0 _ rfl
            refine hK.out _ _ trivial (fun hHeld => ?_)
            clear hK K
            refine wpAnyH_ready (rs := [5]) (by kernel_rfl) (by simp) ?_
            refine AllReadyH.cons (o := { dst := none, op := _, type := _, pos := _, after := _, guard := _ }) rfl (fun K hK => ?_) AllReadyH.nil
            go_simp
            refine hK.out _ _ trivial (fun hHeld => ?_)
            clear hK K
            refine wpAnyH_done (by kernel_rfl) ?_ _
            rw [hlen1] at hRow2
            have kl3 := kl2.set 0 (.slice A2 (acc.length + 1) cap2) (by simp)
            have ke3 := ke2.other (c := w.heap.size) (j := 0) (by omega) (.slice A2 (acc.length + 1) cap2)
            have hc3 := hc2.other (c := w.heap.size) (j := 0) (by omega) (.slice A2 (acc.length + 1) cap2)
            have hRow3 := R_elder hRow2 (p := ⟨w.heap.size, 0, none⟩) (by first | (simp; done) | (simp; omega) | omega) (.slice A2 (acc.length + 1) cap2)
            have bb3 := bb2.setCell (p := ⟨w.heap.size, 0, none⟩) (Nat.le_refl _) (.slice A2 (acc.length + 1) cap2)
            generalize w2.setCell ⟨w.heap.size, 0, none⟩ (.slice A2 (acc.length + 1) cap2) = w3 at *
            go_wp2_with fail
            refine (HS.out _ hc3).mono ?_
            rintro e w4 ⟨rfl, hc4, g4⟩
            have kl4 := kl3.grown g4 (by simp)
            have ke4 := ke3.grown g4 (by simp)
            have hRow4 := R_grownE hRow3 g4 (by omega)
            have bb4 : Below w.heap.size w w4 := below_row2 bb3 g4
            have hcc := hc4
            obtain ⟨c0, c1, f0, f1, lt⟩ := hcc
            by_cases hkl : k < s.size
            · rw [if_pos hkl] at hR
              have e1 : ((k : Int) == s.size) = false := by rw [beq_eq_false_iff_ne]; omega
              go_wp2_with fail
              go_quiet (fail)
              have hc5 := hc4.drawN nq
              have kl5 := kl4.drawN nq
              have ke5 := ke4.drawN nq
              have hRow5 := Kd.R_drewN hRow4 nq
              have bb5 := pw_below_drewN bb4 nq
              generalize w4.drewN nq = w5 at *
              clear c0 c1 f0 f1 lt hc4 kl4 ke4 hRow4 bb4 g4
              by_cases h44 : nx s k = 44
              · rw [if_pos ⟨h44, by omega⟩] at hR
                rw [h44] at HN
                clear h44
                have hR := Lib.hid hR
                go_wp2_with fail
                refine (HN.out _ hc5).mono ?_
                rintro e w6 ⟨rfl, hc6, g6⟩
                have kl6 := kl5.grown g6 (by simp)
                have ke6 := ke5.grown g6 (by simp)
                have hRow6 := R_grownE hRow5 g6 (by omega)
                have bb6 : Below w.heap.size w w6 := below_row2 bb5 g6
                have hc7 := hc6.setI ((k : Int) + 1) (k + 1) (by omega)
                obtain ⟨c0, c1, f0, f1, lt⟩ := hc6
                go_wp2_with fail
                refine (must_yes _).mono ?_
                rintro e w6' ⟨rfl, rfl⟩
                go_wp2_with fail
                go_roundw
                case rel =>
                  refine ⟨k + 1, acc ++ [a], _, hkl, hc7, kl6.other (by first | (simp; done) | (simp; omega) | omega) _, ke6.other (by first | (simp; done) | (simp; omega) | omega) _, R_elder hRow6 (by first | (simp; done) | (simp; omega) | omega) _, ?_, by simp; omega, bb6.setCell (by first | (simp; done) | (simp; omega) | omega) _⟩
                  rw [← hR.out]
                  cases listP okAddr s (k + 1) <;> simp
                case measure => rw [hp2, hc7.place]; omega
              · rw [if_neg (fun h => h44 h.1)] at hR
                simp only [Option.map_none] at hR
                subst hR
                have e2 : (nx s k == 44) = false := by rw [beq_eq_false_iff_ne]; exact h44
                clear h44
                generalize nx s k = x at *
                go_wp2_with fail
                refine (HN.out _ hc5).mono ?_
                rintro e w6 ⟨rfl, hc6, g6⟩
                have kl6 := kl5.grown g6 (by simp)
                have ke6 := ke5.grown g6 (by simp)
                have bb6 : Below w.heap.size w w6 := below_row2 bb5 g6
                go_wp2_with fail
                refine (must_no _).mono ?_
                rintro e w6' ⟨rfl, rfl⟩
                go_wp2_with fail
                refine leaves_cons (f := 145) (args := #[.pointer (some ⟨w.heap.size, 0, none⟩), .pointer (some ⟨w.heap.size + 1, 0, none⟩)]) (by simp) (by simp [go_sem]) ?_
                refine (catch_panicking _ _ _ _ _ kl6 ke6 (by omega)).mono ?_
                rintro e u' w'' ⟨rfl, rfl, h1, h2, h3⟩
                have c1 := h1.at 0 _ rfl
                have c2 := h2.at 0 _ rfl
                simp only [Leaves, settle, mustR, List.dropWhile]
                exact ⟨.tuple #[.slice none 0 0, .int .i64 3], by simp [results, Tryd.results87, go_sem, c1, c2], _, rfl, Kd.R_nil _ _ _ _ _, bb6.trans (h3 _ (by omega) (by omega))⟩
            · rw [if_neg hkl] at hR
              simp only [Option.map_some] at hR
              subst hR
              obtain rfl : k = s.size := by omega
              go_wp2_with fail
              go_quiet (fail)
              have kl5 := kl4.drawN nq
              have ke5 := ke4.drawN nq
              have hRow5 := Kd.R_drewN hRow4 nq
              have bb5 := pw_below_drewN bb4 nq
              generalize w4.drewN nq = w5 at *
              clear c0 c1 f0 f1 lt hc4 kl4 ke4 hRow4 bb4 g4
              have d0 := kl5.at 0 _ rfl
              have d1 := ke5.at 0 _ rfl
              have d2 := kl5.free 0 _ rfl
              have d3 := ke5.free 0 _ rfl
              by_cases h20 : 20 < acc.length + 1
              · have h20' : (20 : Int) < (acc.length : Int) + 1 := by omega
                have hres : listRes (some (acc ++ [a])) = (5, []) := by rw [listRes, if_pos (by simp; omega)]
                generalize listRes (some (acc ++ [a])) = res at *
                subst hres
                go_wp2_with fail
                refine leaves_cons (f := 145) (args := #[.pointer (some ⟨w.heap.size, 0, none⟩), .pointer (some ⟨w.heap.size + 1, 0, none⟩)]) (by simp) (by simp [go_sem]) ?_
                refine (catch_idle _ _ _).mono ?_
                rintro e u' w'' ⟨rfl, rfl, rfl⟩
                simp only [Leaves, settle]
                exact ⟨.tuple #[.slice none 0 0, .int .i64 5], by simp [results, Tryd.results87, go_sem, *], _, rfl, Kd.R_nil _ _ _ _ _, by (iterate 2 (refine Below.setCell ?_ (by first | (simp; done) | (simp; omega) | omega) _)); exact bb5⟩
              · have h20' : ¬ (20 : Int) < (acc.length : Int) + 1 := by omega
                have hres : listRes (some (acc ++ [a])) = (0, acc ++ [a]) := by rw [listRes, if_neg (by simp; omega)]
                generalize listRes (some (acc ++ [a])) = res at *
                subst hres
                go_wp2_with fail
                refine leaves_cons (f := 145) (args := #[.pointer (some ⟨w.heap.size, 0, none⟩), .pointer (some ⟨w.heap.size + 1, 0, none⟩)]) (by simp) (by simp [go_sem]) ?_
                refine (catch_idle _ _ _).mono ?_
                rintro e u' w'' ⟨rfl, rfl, rfl⟩
                simp only [Leaves, settle]
                exact ⟨.tuple #[.slice A2 (acc.length + 1) cap2, .int .i64 0], by simp [results, Tryd.results87, go_sem, *], _, rfl, Kd.R_lower (R_elder (R_elder hRow5 (by first | (simp; done) | (simp; omega) | omega) _) (by first | (simp; done) | (simp; omega) | omega) _) (by omega), by (iterate 2 (refine Below.setCell ?_ (by first | (simp; done) | (simp; omega) | omega) _)); exact bb5⟩
          · go_simp
            refine hK.out _ _ trivial (fun hHeld => ?_)
            clear hK K
            have d1 := (kl1.alloc (.cells #[.string a.loc, .string a.dom] 49)).at 0 _ rfl
            refine wpAnyH_ready (rs := [0]) (by kernel_rfl) (by simp) ?_
            refine AllReadyH.cons (o := { dst := some 12, op := _, type := _, pos := _, after := _, guard := _ }) rfl (fun K hK => ?_) AllReadyH.nil
            go_simp
            refine hK.out _ _ trivial (fun hHeld => ?_)
            clear hK K
            refine wpAnyH_ready (rs := [4]) (by kernel_rfl) (by simp) ?_
            refine AllReadyH.cons (o := { dst := some 16, op := _, type := _, pos := _, after := _, guard := _ }) rfl (fun K hK => ?_) AllReadyH.nil
            refine snoc_step rowAAddress (w.heap.size + 3) (by rfl) (.tmp 12) (.tmp 15) (by rfl) (.slice A0 acc.length cap0) acc a [.string a.loc, .string a.dom] (by rfl) (by rfl) rfl hRow1 (by omega) (by omega) ?_
            intro v2 w2 hRow2 hb2 hg2
            obtain ⟨A2, cap2, rfl⟩ := Kd.R_slice hRow2
            have kl2 := kl1.beside hRow1 hg2 (by omega)
            have ke2 := ke1.beside hRow1 hg2 (by omega)
            have hc2 := hc1.kept hg2 (fun he => by obtain ⟨inner, ho⟩ := Kd.R_own hRow1; have := own_base ho _ he.symm; omega)
            have bb2 : Below w.heap.size w w2 := bb1.trans (hb2.mono (by omega))
            have z2 := hb2.size
            have d2 := kl2.at 0 _ rfl
            have f2 := kl2.free 0 _ rfl
            refine hK.out _ _ trivial (fun hHeld => ?_)
            clear hK K
            refine wpAnyH_ready (rs := [5]) (by kernel_rfl) (by simp) ?_
            refine AllReadyH.cons (o := { dst := none, op := _, type := _, pos := _, after := _, guard := _ }) rfl (fun K hK => ?_) AllReadyH.nil
            go_simp
            refine hK.out _ _ trivial (fun hHeld => ?_)
            clear hK K
            refine wpAnyH_done (by kernel_rfl) ?_ _
            rw [hlen1] at hRow2
            have kl3 := kl2.set 0 (.slice A2 (acc.length + 1) cap2) (by simp)
            have ke3 := ke2.other (c := w.heap.size) (j := 0) (by omega) (.slice A2 (acc.length + 1) cap2)
            have hc3 := hc2.other (c := w.heap.size) (j := 0) (by omega) (.slice A2 (acc.length + 1) cap2)
            have hRow3 := R_elder hRow2 (p := ⟨w.heap.size, 0, none⟩) (by first | (simp; done) | (simp; omega) | omega) (.slice A2 (acc.length + 1) cap2)
            have bb3 := bb2.setCell (p := ⟨w.heap.size, 0, none⟩) (Nat.le_refl _) (.slice A2 (acc.length + 1) cap2)
            generalize w2.setCell ⟨w.heap.size, 0, none⟩ (.slice A2 (acc.length + 1) cap2) = w3 at *
            go_wp2_with fail
            refine (HS.out _ hc3).mono ?_
            rintro e w4 ⟨rfl, hc4, g4⟩
            have kl4 := kl3.grown g4 (by simp)
            have ke4 := ke3.grown g4 (by simp)
            have hRow4 := R_grownE hRow3 g4 (by omega)
            have bb4 : Below w.heap.size w w4 := below_row2 bb3 g4
            have hcc := hc4
            obtain ⟨c0, c1, f0, f1, lt⟩ := hcc
            by_cases hkl : k < s.size
            · rw [if_pos hkl] at hR
              have e1 : ((k : Int) == s.size) = false := by rw [beq_eq_false_iff_ne]; omega
              go_wp2_with fail
              go_quiet (fail)
              have hc5 := hc4.drawN nq
              have kl5 := kl4.drawN nq
              have ke5 := ke4.drawN nq
              have hRow5 := Kd.R_drewN hRow4 nq
              have bb5 := pw_below_drewN bb4 nq
              generalize w4.drewN nq = w5 at *
              clear c0 c1 f0 f1 lt hc4 kl4 ke4 hRow4 bb4 g4
              by_cases h44 : nx s k = 44
              · rw [if_pos ⟨h44, by omega⟩] at hR
                rw [h44] at HN
                clear h44
                have hR := Lib.hid hR
                go_wp2_with fail
                refine (HN.out _ hc5).mono ?_
                rintro e w6 ⟨rfl, hc6, g6⟩
                have kl6 := kl5.grown g6 (by simp)
                have ke6 := ke5.grown g6 (by simp)
                have hRow6 := R_grownE hRow5 g6 (by omega)
                have bb6 : Below w.heap.size w w6 := below_row2 bb5 g6
                have hc7 := hc6.setI ((k : Int) + 1) (k + 1) (by omega)
                obtain ⟨c0, c1, f0, f1, lt⟩ := hc6
                go_wp2_with fail
                refine (must_yes _).mono ?_
                rintro e w6' ⟨rfl, rfl⟩
                go_wp2_with fail
                go_roundw
                case rel =>
                  refine ⟨k + 1, acc ++ [a], _, hkl, hc7, kl6.other (by first | (simp; done) | (simp; omega) | omega) _, ke6.other (by first | (simp; done) | (simp; omega) | omega) _, R_elder hRow6 (by first | (simp; done) | (simp; omega) | omega) _, ?_, by simp; omega, bb6.setCell (by first | (simp; done) | (simp; omega) | omega) _⟩
                  rw [← hR.out]
                  cases listP okAddr s (k + 1) <;> simp
                case measure => rw [hp2, hc7.place]; omega
              · rw [if_neg (fun h => h44 h.1)] at hR
                simp only [Option.map_none] at hR
                subst hR
                have e2 : (nx s k == 44) = false := by rw [beq_eq_false_iff_ne]; exact h44
                clear h44
                generalize nx s k = x at *
                go_wp2_with fail
                refine (HN.out _ hc5).mono ?_
                rintro e w6 ⟨rfl, hc6, g6⟩
                have kl6 := kl5.grown g6 (by simp)
                have ke6 := ke5.grown g6 (by simp)
                have bb6 : Below w.heap.size w w6 := below_row2 bb5 g6
                go_wp2_with fail
                refine (must_no _).mono ?_
                rintro e w6' ⟨rfl, rfl⟩
                go_wp2_with fail
                refine leaves_cons (f := 145) (args := #[.pointer (some ⟨w.heap.size, 0, none⟩), .pointer (some ⟨w.heap.size + 1, 0, none⟩)]) (by simp) (by simp [go_sem]) ?_
                refine (catch_panicking _ _ _ _ _ kl6 ke6 (by omega)).mono ?_
                rintro e u' w'' ⟨rfl, rfl, h1, h2, h3⟩
                have c1 := h1.at 0 _ rfl
                have c2 := h2.at 0 _ rfl
                simp only [Leaves, settle, mustR, List.dropWhile]
                exact ⟨.tuple #[.slice none 0 0, .int .i64 3], by simp [results, Tryd.results87, go_sem, c1, c2], _, rfl, Kd.R_nil _ _ _ _ _, bb6.trans (h3 _ (by omega) (by omega))⟩
            · rw [if_neg hkl] at hR
              simp only [Option.map_some] at hR
              subst hR
              obtain rfl : k = s.size := by omega
              go_wp2_with fail
              go_quiet (fail)
              have kl5 := kl4.drawN nq
              have ke5 := ke4.drawN nq
              have hRow5 := Kd.R_drewN hRow4 nq
              have bb5 := pw_below_drewN bb4 nq
              generalize w4.drewN nq = w5 at *
              clear c0 c1 f0 f1 lt hc4 kl4 ke4 hRow4 bb4 g4
              have d0 := kl5.at 0 _ rfl
              have d1 := ke5.at 0 _ rfl
              have d2 := kl5.free 0 _ rfl
              have d3 := ke5.free 0 _ rfl
              by_cases h20 : 20 < acc.length + 1
              · have h20' : (20 : Int) < (acc.length : Int) + 1 := by omega
                have hres : listRes (some (acc ++ [a])) = (5, []) := by rw [listRes, if_pos (by simp; omega)]
                generalize listRes (some (acc ++ [a])) = res at *
                subst hres
                go_wp2_with fail
                refine leaves_cons (f := 145) (args := #[.pointer (some ⟨w.heap.size, 0, none⟩), .pointer (some ⟨w.heap.size + 1, 0, none⟩)]) (by simp) (by simp [go_sem]) ?_
                refine (catch_idle _ _ _).mono ?_
                rintro e u' w'' ⟨rfl, rfl, rfl⟩
                simp only [Leaves, settle]
                exact ⟨.tuple #[.slice none 0 0, .int .i64 5], by simp [results, Tryd.results87, go_sem, *], _, rfl, Kd.R_nil _ _ _ _ _, by (iterate 2 (refine Below.setCell ?_ (by first | (simp; done) | (simp; omega) | omega) _)); exact bb5⟩
              · have h20' : ¬ (20 : Int) < (acc.length : Int) + 1 := by omega
                have hres : listRes (some (acc ++ [a])) = (0, acc ++ [a]) := by rw [listRes, if_neg (by simp; omega)]
                generalize listRes (some (acc ++ [a])) = res at *
                subst hres
                go_wp2_with fail
                refine leaves_cons (f := 145) (args := #[.pointer (some ⟨w.heap.size, 0, none⟩), .pointer (some ⟨w.heap.size + 1, 0, none⟩)]) (by simp) (by simp [go_sem]) ?_
                refine (catch_idle _ _ _).mono ?_
                rintro e u' w'' ⟨rfl, rfl, rfl⟩
                simp only [Leaves, settle]
                exact ⟨.tuple #[.slice A2 (acc.length + 1) cap2, .int .i64 0], by simp [results, Tryd.results87, go_sem, *], _, rfl, Kd.R_lower (R_elder (R_elder hRow5 (by first | (simp; done) | (simp; omega) | omega) _) (by first | (simp; done) | (simp; omega) | omega) _) (by omega), by (iterate 2 (refine Below.setCell ?_ (by first | (simp; done) | (simp; omega) | omega) _)); exact bb5⟩
end Go.Proofs.YtijdghplfhfpaaaDoor.H

/- Entries: the walk of box.Form. -/
namespace Go.Proofs.YtijdghplfhfpaaaDoor.H
open Go.RowKit Go.Proofs.YtijdghplfhfpaaaDoorW.PrintWords Go.Proofs.YtijdghplfhfpaaaDoorW.PrintLast Go.Proofs.YtijdghplfhfpaaaDoor.U
set_option linter.unusedVariables false
set_option linter.unusedSimpArgs false
attribute [local go_sem high] eqAEntry
def bareE (x : AEntry) : AEntry :=
  if x.kind = 2 then ⟨2, x.box, 0, x.flags, ⟨#[]⟩, x.text⟩
  else if x.kind = 3 then ⟨3, x.box, x.uid, x.flags, ⟨#[]⟩, ⟨#[]⟩⟩
  else if x.kind = 5 then ⟨5, x.box, x.uid, 0, x.to_, ⟨#[]⟩⟩
  else if x.kind = 6 then ⟨6, ⟨#[]⟩, 0, 0, x.to_, x.text⟩
  else ⟨x.kind, x.box, 0, 0, ⟨#[]⟩, ⟨#[]⟩⟩
def spoolFault (s : ByteArray) : Int := if (listV s).1 = 0 ∧ (listV s).2.length = 1 ∧ s.size ≤ 100 then 0 else 3
def nameTail (x : AEntry) : Int := if nameFault x.box = 0 then (if x.kind = 5 then nameFault x.to_ else 0) else nameFault x.box
def entryFault (x : AEntry) : Int :=
  if x.kind < 1 ∨ 6 < x.kind then 2
  else if eqbAEntry x (bareE x) = false then 3
  else if x.flags < 0 ∨ 31 < x.flags ∨ x.uid < 0 ∨ 1048576 < x.uid then 6
  else if 2000 < x.text.size then 1
  else if x.kind = 6 then spoolFault x.to_ else nameTail x
theorem ef_kind {x : AEntry} (h : x.kind < 1 ∨ 6 < x.kind) : entryFault x = 2 := if_pos h
theorem ef_form {x : AEntry} (h : ¬ (x.kind < 1 ∨ 6 < x.kind)) (h2 : eqbAEntry x (bareE x) = false) : entryFault x = 3 := by rw [entryFault, if_neg h, if_pos h2]
theorem ef_range {x : AEntry} (h : ¬ (x.kind < 1 ∨ 6 < x.kind)) (h2 : eqbAEntry x (bareE x) = true) (h3 : x.flags < 0 ∨ 31 < x.flags ∨ x.uid < 0 ∨ 1048576 < x.uid) : entryFault x = 6 := by rw [entryFault, if_neg h, if_neg (by rw [h2]; decide), if_pos h3]
theorem ef_size {x : AEntry} (h : ¬ (x.kind < 1 ∨ 6 < x.kind)) (h2 : eqbAEntry x (bareE x) = true) (h3 : ¬ (x.flags < 0 ∨ 31 < x.flags ∨ x.uid < 0 ∨ 1048576 < x.uid)) (h4 : 2000 < x.text.size) : entryFault x = 1 := by rw [entryFault, if_neg h, if_neg (by rw [h2]; decide), if_neg h3, if_pos h4]
theorem ef_tail {x : AEntry} (h : ¬ (x.kind < 1 ∨ 6 < x.kind)) (h2 : eqbAEntry x (bareE x) = true) (h3 : ¬ (x.flags < 0 ∨ 31 < x.flags ∨ x.uid < 0 ∨ 1048576 < x.uid)) (h4 : ¬ 2000 < x.text.size) : entryFault x = if x.kind = 6 then spoolFault x.to_ else nameTail x := by rw [entryFault, if_neg h, if_neg (by rw [h2]; decide), if_neg h3, if_neg h4]
set_option maxHeartbeats 8000000 in
set_option maxRecDepth 100000 in
theorem form_1 (bx : ByteArray) (u f : Int) (to_ tx : ByteArray) (m : Int) (w : World) (hb : bx.size ≤ 1048576) (ht : to_.size ≤ 1048576) (hx : tx.size ≤ 1048576) (hm : w.cell? ⟨6, 0, none⟩ = some (.int .i64 m)) (hg : 6 < w.heap.size) :
    Calls Tryd.prog 48 #[.agg #[.int .i64 1, .string bx, .int .i64 u, .int .i64 f, .string to_, .string tx]] w fun e w' => e = .returned (.int .i64 (entryFault ⟨1, bx, u, f, to_, tx⟩)) ∧ Below w.heap.size w w' := by
  have hk : ¬ ((⟨1, bx, u, f, to_, tx⟩ : AEntry).kind < 1 ∨ 6 < (⟨1, bx, u, f, to_, tx⟩ : AEntry).kind) := by show ¬ ((1 : Int) < 1 ∨ 6 < (1 : Int)); omega
  have hbare : bareE ⟨1, bx, u, f, to_, tx⟩ = (⟨1, bx, 0, 0, ⟨#[]⟩, ⟨#[]⟩⟩ : AEntry) := rfl
  have h3 := fun h => ef_form (x := ⟨1, bx, u, f, to_, tx⟩) hk h
  have h6 := fun h h2 => ef_range (x := ⟨1, bx, u, f, to_, tx⟩) hk h h2
  have h1 := fun h h2 h3 => ef_size (x := ⟨1, bx, u, f, to_, tx⟩) hk h h2 h3
  have h0 := fun h h2 h3 => ef_tail (x := ⟨1, bx, u, f, to_, tx⟩) hk h h2 h3
  rw [hbare] at h3 h6 h1 h0
  simp only at h6 h1 h0
  generalize entryFault ⟨1, bx, u, f, to_, tx⟩ = r at *
  clear hbare hk
  cases hq : eqbAEntry ⟨1, bx, u, f, to_, tx⟩ (⟨1, bx, 0, 0, ⟨#[]⟩, ⟨#[]⟩⟩ : AEntry) with
  | false =>
    obtain rfl := h3 hq
    clear h3 h6 h1 h0
    go_enter Tryd.func48, Tryd.ntmps48
    go_wp2_with fail
    skip
    all_goals (go_wp2_with fail)
    all_goals (go_ret; exact ⟨(by first | rfl | (simp; done) | (simp [*]; done) | (rw [if_pos (by omega)]; first | rfl | (simp; done)) | (rw [if_neg (by omega)]; first | rfl | (simp; done)) | (simp; omega)), (by repeat (first | exact Below.refl _ _ | apply below_alloc | apply pw_below_drewN | apply below_drew1 | (refine Below.setCell ?_ (by first | (simp; done) | (simp; omega) | omega) _) ))⟩)
  | true =>
    replace h6 := h6 hq
    replace h1 := h1 hq
    replace h0 := h0 hq
    clear h3
    rcases (by omega : f < 0 ∨ (0 ≤ f ∧ 31 < f) ∨ (0 ≤ f ∧ f ≤ 31 ∧ u < 0) ∨ (0 ≤ f ∧ f ≤ 31 ∧ 0 ≤ u ∧ 1048576 < u) ∨ (0 ≤ f ∧ f ≤ 31 ∧ 0 ≤ u ∧ u ≤ 1048576 ∧ 2000 < tx.size) ∨ (0 ≤ f ∧ f ≤ 31 ∧ 0 ≤ u ∧ u ≤ 1048576 ∧ tx.size ≤ 2000)) with g1 | ⟨g1, g2⟩ | ⟨g1, g2, g3⟩ | ⟨g1, g2, g3, g4⟩ | ⟨g1, g2, g3, g4, g5⟩ | ⟨g1, g2, g3, g4, g5⟩
    · obtain rfl := h6 (by omega)
      clear h6 h1 h0
      go_enter Tryd.func48, Tryd.ntmps48
      go_wp2_with fail
      skip
      all_goals (go_wp2_with fail)
      all_goals (go_ret; exact ⟨(by first | rfl | (simp; done) | (simp [*]; done) | (rw [if_pos (by omega)]; first | rfl | (simp; done)) | (rw [if_neg (by omega)]; first | rfl | (simp; done)) | (simp; omega)), (by repeat (first | exact Below.refl _ _ | apply below_alloc | apply pw_below_drewN | apply below_drew1 | (refine Below.setCell ?_ (by first | (simp; done) | (simp; omega) | omega) _) ))⟩)
    · obtain rfl := h6 (by omega)
      clear h6 h1 h0
      go_enter Tryd.func48, Tryd.ntmps48
      go_wp2_with fail
      skip
      all_goals (go_wp2_with fail)
      all_goals (go_ret; exact ⟨(by first | rfl | (simp; done) | (simp [*]; done) | (rw [if_pos (by omega)]; first | rfl | (simp; done)) | (rw [if_neg (by omega)]; first | rfl | (simp; done)) | (simp; omega)), (by repeat (first | exact Below.refl _ _ | apply below_alloc | apply pw_below_drewN | apply below_drew1 | (refine Below.setCell ?_ (by first | (simp; done) | (simp; omega) | omega) _) ))⟩)
    · obtain rfl := h6 (by omega)
      clear h6 h1 h0
      go_enter Tryd.func48, Tryd.ntmps48
      go_wp2_with fail
      skip
      all_goals (go_wp2_with fail)
      all_goals (go_ret; exact ⟨(by first | rfl | (simp; done) | (simp [*]; done) | (rw [if_pos (by omega)]; first | rfl | (simp; done)) | (rw [if_neg (by omega)]; first | rfl | (simp; done)) | (simp; omega)), (by repeat (first | exact Below.refl _ _ | apply below_alloc | apply pw_below_drewN | apply below_drew1 | (refine Below.setCell ?_ (by first | (simp; done) | (simp; omega) | omega) _) ))⟩)
    · obtain rfl := h6 (by omega)
      clear h6 h1 h0
      go_enter Tryd.func48, Tryd.ntmps48
      go_wp2_with fail
      skip
      all_goals (go_wp2_with fail)
      all_goals (go_ret; exact ⟨(by first | rfl | (simp; done) | (simp [*]; done) | (rw [if_pos (by omega)]; first | rfl | (simp; done)) | (rw [if_neg (by omega)]; first | rfl | (simp; done)) | (simp; omega)), (by repeat (first | exact Below.refl _ _ | apply below_alloc | apply pw_below_drewN | apply below_drew1 | (refine Below.setCell ?_ (by first | (simp; done) | (simp; omega) | omega) _) ))⟩)
    · obtain rfl := h1 (by omega) g5
      clear h6 h1 h0
      have g5' : (2000 : Int) < tx.size := by omega
      go_enter Tryd.func48, Tryd.ntmps48
      go_wp2_with fail
      skip
      all_goals (go_wp2_with fail)
      all_goals (go_ret; exact ⟨(by first | rfl | (simp; done) | (simp [*]; done) | (rw [if_pos (by omega)]; first | rfl | (simp; done)) | (rw [if_neg (by omega)]; first | rfl | (simp; done)) | (simp; omega)), (by repeat (first | exact Below.refl _ _ | apply below_alloc | apply pw_below_drewN | apply below_drew1 | (refine Below.setCell ?_ (by first | (simp; done) | (simp; omega) | omega) _) ))⟩)
    · replace h0 := h0 (by omega) (by omega)
      have g5' : ¬ (2000 : Int) < tx.size := by omega
      clear h6 h1
      replace h0 : r = nameFault bx := by rw [h0, if_neg (by omega), nameTail]; simp only; split <;> simp_all
      have HN := fun w => ruleName_calls bx w (by omega)
      generalize nameFault bx = nf at *
      subst h0
      have HN := Lib.hid HN
      by_cases hz : r = 0
      · subst hz
        go_enter Tryd.func48, Tryd.ntmps48
        go_wp2_with fail
        skip
        all_goals (go_wp2_with fail; refine (HN.out _).mono ?_; rintro e w1 ⟨rfl, rfl⟩; go_wp2_with fail)
        all_goals (go_ret; exact ⟨(by first | rfl | (simp; done) | (simp [*]; done) | (rw [if_pos (by omega)]; first | rfl | (simp; done)) | (rw [if_neg (by omega)]; first | rfl | (simp; done)) | (simp; omega)), (by repeat (first | exact Below.refl _ _ | apply below_alloc | apply pw_below_drewN | apply below_drew1 | (refine Below.setCell ?_ (by first | (simp; done) | (simp; omega) | omega) _) ))⟩)
      · have e1 : (r != 0) = true := by rw [bne_iff_ne]; exact hz
        clear hz
        go_enter Tryd.func48, Tryd.ntmps48
        go_wp2_with fail
        skip
        all_goals (go_wp2_with fail; refine (HN.out _).mono ?_; rintro e w1 ⟨rfl, rfl⟩; go_wp2_with fail)
        all_goals (go_ret; exact ⟨(by first | rfl | (simp; done) | (simp [*]; done) | (rw [if_pos (by omega)]; first | rfl | (simp; done)) | (rw [if_neg (by omega)]; first | rfl | (simp; done)) | (simp; omega)), (by repeat (first | exact Below.refl _ _ | apply below_alloc | apply pw_below_drewN | apply below_drew1 | (refine Below.setCell ?_ (by first | (simp; done) | (simp; omega) | omega) _) ))⟩)
set_option maxHeartbeats 8000000 in
set_option maxRecDepth 100000 in
theorem form_2 (bx : ByteArray) (u f : Int) (to_ tx : ByteArray) (m : Int) (w : World) (hb : bx.size ≤ 1048576) (ht : to_.size ≤ 1048576) (hx : tx.size ≤ 1048576) (hm : w.cell? ⟨6, 0, none⟩ = some (.int .i64 m)) (hg : 6 < w.heap.size) :
    Calls Tryd.prog 48 #[.agg #[.int .i64 2, .string bx, .int .i64 u, .int .i64 f, .string to_, .string tx]] w fun e w' => e = .returned (.int .i64 (entryFault ⟨2, bx, u, f, to_, tx⟩)) ∧ Below w.heap.size w w' := by
  have hk : ¬ ((⟨2, bx, u, f, to_, tx⟩ : AEntry).kind < 1 ∨ 6 < (⟨2, bx, u, f, to_, tx⟩ : AEntry).kind) := by show ¬ ((2 : Int) < 1 ∨ 6 < (2 : Int)); omega
  have hbare : bareE ⟨2, bx, u, f, to_, tx⟩ = (⟨2, bx, 0, f, ⟨#[]⟩, tx⟩ : AEntry) := rfl
  have h3 := fun h => ef_form (x := ⟨2, bx, u, f, to_, tx⟩) hk h
  have h6 := fun h h2 => ef_range (x := ⟨2, bx, u, f, to_, tx⟩) hk h h2
  have h1 := fun h h2 h3 => ef_size (x := ⟨2, bx, u, f, to_, tx⟩) hk h h2 h3
  have h0 := fun h h2 h3 => ef_tail (x := ⟨2, bx, u, f, to_, tx⟩) hk h h2 h3
  rw [hbare] at h3 h6 h1 h0
  simp only at h6 h1 h0
  generalize entryFault ⟨2, bx, u, f, to_, tx⟩ = r at *
  clear hbare hk
  cases hq : eqbAEntry ⟨2, bx, u, f, to_, tx⟩ (⟨2, bx, 0, f, ⟨#[]⟩, tx⟩ : AEntry) with
  | false =>
    obtain rfl := h3 hq
    clear h3 h6 h1 h0
    go_enter Tryd.func48, Tryd.ntmps48
    go_wp2_with fail
    go_region
    all_goals (go_wp2_with fail)
    all_goals (go_ret; exact ⟨(by first | rfl | (simp; done) | (simp [*]; done) | (rw [if_pos (by omega)]; first | rfl | (simp; done)) | (rw [if_neg (by omega)]; first | rfl | (simp; done)) | (simp; omega)), (by repeat (first | exact Below.refl _ _ | apply below_alloc | apply pw_below_drewN | apply below_drew1 | (refine Below.setCell ?_ (by first | (simp; done) | (simp; omega) | omega) _) ))⟩)
  | true =>
    replace h6 := h6 hq
    replace h1 := h1 hq
    replace h0 := h0 hq
    clear h3
    rcases (by omega : f < 0 ∨ (0 ≤ f ∧ 31 < f) ∨ (0 ≤ f ∧ f ≤ 31 ∧ u < 0) ∨ (0 ≤ f ∧ f ≤ 31 ∧ 0 ≤ u ∧ 1048576 < u) ∨ (0 ≤ f ∧ f ≤ 31 ∧ 0 ≤ u ∧ u ≤ 1048576 ∧ 2000 < tx.size) ∨ (0 ≤ f ∧ f ≤ 31 ∧ 0 ≤ u ∧ u ≤ 1048576 ∧ tx.size ≤ 2000)) with g1 | ⟨g1, g2⟩ | ⟨g1, g2, g3⟩ | ⟨g1, g2, g3, g4⟩ | ⟨g1, g2, g3, g4, g5⟩ | ⟨g1, g2, g3, g4, g5⟩
    · obtain rfl := h6 (by omega)
      clear h6 h1 h0
      go_enter Tryd.func48, Tryd.ntmps48
      go_wp2_with fail
      go_region
      all_goals (go_wp2_with fail)
      all_goals (go_ret; exact ⟨(by first | rfl | (simp; done) | (simp [*]; done) | (rw [if_pos (by omega)]; first | rfl | (simp; done)) | (rw [if_neg (by omega)]; first | rfl | (simp; done)) | (simp; omega)), (by repeat (first | exact Below.refl _ _ | apply below_alloc | apply pw_below_drewN | apply below_drew1 | (refine Below.setCell ?_ (by first | (simp; done) | (simp; omega) | omega) _) ))⟩)
    · obtain rfl := h6 (by omega)
      clear h6 h1 h0
      go_enter Tryd.func48, Tryd.ntmps48
      go_wp2_with fail
      go_region
      all_goals (go_wp2_with fail)
      all_goals (go_ret; exact ⟨(by first | rfl | (simp; done) | (simp [*]; done) | (rw [if_pos (by omega)]; first | rfl | (simp; done)) | (rw [if_neg (by omega)]; first | rfl | (simp; done)) | (simp; omega)), (by repeat (first | exact Below.refl _ _ | apply below_alloc | apply pw_below_drewN | apply below_drew1 | (refine Below.setCell ?_ (by first | (simp; done) | (simp; omega) | omega) _) ))⟩)
    · obtain rfl := h6 (by omega)
      clear h6 h1 h0
      go_enter Tryd.func48, Tryd.ntmps48
      go_wp2_with fail
      go_region
      all_goals (go_wp2_with fail)
      all_goals (go_ret; exact ⟨(by first | rfl | (simp; done) | (simp [*]; done) | (rw [if_pos (by omega)]; first | rfl | (simp; done)) | (rw [if_neg (by omega)]; first | rfl | (simp; done)) | (simp; omega)), (by repeat (first | exact Below.refl _ _ | apply below_alloc | apply pw_below_drewN | apply below_drew1 | (refine Below.setCell ?_ (by first | (simp; done) | (simp; omega) | omega) _) ))⟩)
    · obtain rfl := h6 (by omega)
      clear h6 h1 h0
      go_enter Tryd.func48, Tryd.ntmps48
      go_wp2_with fail
      go_region
      all_goals (go_wp2_with fail)
      all_goals (go_ret; exact ⟨(by first | rfl | (simp; done) | (simp [*]; done) | (rw [if_pos (by omega)]; first | rfl | (simp; done)) | (rw [if_neg (by omega)]; first | rfl | (simp; done)) | (simp; omega)), (by repeat (first | exact Below.refl _ _ | apply below_alloc | apply pw_below_drewN | apply below_drew1 | (refine Below.setCell ?_ (by first | (simp; done) | (simp; omega) | omega) _) ))⟩)
    · obtain rfl := h1 (by omega) g5
      clear h6 h1 h0
      have g5' : (2000 : Int) < tx.size := by omega
      go_enter Tryd.func48, Tryd.ntmps48
      go_wp2_with fail
      go_region
      all_goals (go_wp2_with fail)
      all_goals (go_ret; exact ⟨(by first | rfl | (simp; done) | (simp [*]; done) | (rw [if_pos (by omega)]; first | rfl | (simp; done)) | (rw [if_neg (by omega)]; first | rfl | (simp; done)) | (simp; omega)), (by repeat (first | exact Below.refl _ _ | apply below_alloc | apply pw_below_drewN | apply below_drew1 | (refine Below.setCell ?_ (by first | (simp; done) | (simp; omega) | omega) _) ))⟩)
    · replace h0 := h0 (by omega) (by omega)
      have g5' : ¬ (2000 : Int) < tx.size := by omega
      clear h6 h1
      replace h0 : r = nameFault bx := by rw [h0, if_neg (by omega), nameTail]; simp only; split <;> simp_all
      have HN := fun w => ruleName_calls bx w (by omega)
      generalize nameFault bx = nf at *
      subst h0
      have HN := Lib.hid HN
      by_cases hz : r = 0
      · subst hz
        go_enter Tryd.func48, Tryd.ntmps48
        go_wp2_with fail
        go_region
        all_goals (go_wp2_with fail; refine (HN.out _).mono ?_; rintro e w1 ⟨rfl, rfl⟩; go_wp2_with fail)
        all_goals (go_ret; exact ⟨(by first | rfl | (simp; done) | (simp [*]; done) | (rw [if_pos (by omega)]; first | rfl | (simp; done)) | (rw [if_neg (by omega)]; first | rfl | (simp; done)) | (simp; omega)), (by repeat (first | exact Below.refl _ _ | apply below_alloc | apply pw_below_drewN | apply below_drew1 | (refine Below.setCell ?_ (by first | (simp; done) | (simp; omega) | omega) _) ))⟩)
      · have e1 : (r != 0) = true := by rw [bne_iff_ne]; exact hz
        clear hz
        go_enter Tryd.func48, Tryd.ntmps48
        go_wp2_with fail
        go_region
        all_goals (go_wp2_with fail; refine (HN.out _).mono ?_; rintro e w1 ⟨rfl, rfl⟩; go_wp2_with fail)
        all_goals (go_ret; exact ⟨(by first | rfl | (simp; done) | (simp [*]; done) | (rw [if_pos (by omega)]; first | rfl | (simp; done)) | (rw [if_neg (by omega)]; first | rfl | (simp; done)) | (simp; omega)), (by repeat (first | exact Below.refl _ _ | apply below_alloc | apply pw_below_drewN | apply below_drew1 | (refine Below.setCell ?_ (by first | (simp; done) | (simp; omega) | omega) _) ))⟩)
set_option maxHeartbeats 8000000 in
set_option maxRecDepth 100000 in
theorem form_3 (bx : ByteArray) (u f : Int) (to_ tx : ByteArray) (m : Int) (w : World) (hb : bx.size ≤ 1048576) (ht : to_.size ≤ 1048576) (hx : tx.size ≤ 1048576) (hm : w.cell? ⟨6, 0, none⟩ = some (.int .i64 m)) (hg : 6 < w.heap.size) :
    Calls Tryd.prog 48 #[.agg #[.int .i64 3, .string bx, .int .i64 u, .int .i64 f, .string to_, .string tx]] w fun e w' => e = .returned (.int .i64 (entryFault ⟨3, bx, u, f, to_, tx⟩)) ∧ Below w.heap.size w w' := by
  have hk : ¬ ((⟨3, bx, u, f, to_, tx⟩ : AEntry).kind < 1 ∨ 6 < (⟨3, bx, u, f, to_, tx⟩ : AEntry).kind) := by show ¬ ((3 : Int) < 1 ∨ 6 < (3 : Int)); omega
  have hbare : bareE ⟨3, bx, u, f, to_, tx⟩ = (⟨3, bx, u, f, ⟨#[]⟩, ⟨#[]⟩⟩ : AEntry) := rfl
  have h3 := fun h => ef_form (x := ⟨3, bx, u, f, to_, tx⟩) hk h
  have h6 := fun h h2 => ef_range (x := ⟨3, bx, u, f, to_, tx⟩) hk h h2
  have h1 := fun h h2 h3 => ef_size (x := ⟨3, bx, u, f, to_, tx⟩) hk h h2 h3
  have h0 := fun h h2 h3 => ef_tail (x := ⟨3, bx, u, f, to_, tx⟩) hk h h2 h3
  rw [hbare] at h3 h6 h1 h0
  simp only at h6 h1 h0
  generalize entryFault ⟨3, bx, u, f, to_, tx⟩ = r at *
  clear hbare hk
  cases hq : eqbAEntry ⟨3, bx, u, f, to_, tx⟩ (⟨3, bx, u, f, ⟨#[]⟩, ⟨#[]⟩⟩ : AEntry) with
  | false =>
    obtain rfl := h3 hq
    clear h3 h6 h1 h0
    go_enter Tryd.func48, Tryd.ntmps48
    go_wp2_with fail
    go_region
    all_goals (go_wp2_with fail)
    all_goals (go_ret; exact ⟨(by first | rfl | (simp; done) | (simp [*]; done) | (rw [if_pos (by omega)]; first | rfl | (simp; done)) | (rw [if_neg (by omega)]; first | rfl | (simp; done)) | (simp; omega)), (by repeat (first | exact Below.refl _ _ | apply below_alloc | apply pw_below_drewN | apply below_drew1 | (refine Below.setCell ?_ (by first | (simp; done) | (simp; omega) | omega) _) ))⟩)
  | true =>
    replace h6 := h6 hq
    replace h1 := h1 hq
    replace h0 := h0 hq
    clear h3
    rcases (by omega : f < 0 ∨ (0 ≤ f ∧ 31 < f) ∨ (0 ≤ f ∧ f ≤ 31 ∧ u < 0) ∨ (0 ≤ f ∧ f ≤ 31 ∧ 0 ≤ u ∧ 1048576 < u) ∨ (0 ≤ f ∧ f ≤ 31 ∧ 0 ≤ u ∧ u ≤ 1048576 ∧ 2000 < tx.size) ∨ (0 ≤ f ∧ f ≤ 31 ∧ 0 ≤ u ∧ u ≤ 1048576 ∧ tx.size ≤ 2000)) with g1 | ⟨g1, g2⟩ | ⟨g1, g2, g3⟩ | ⟨g1, g2, g3, g4⟩ | ⟨g1, g2, g3, g4, g5⟩ | ⟨g1, g2, g3, g4, g5⟩
    · obtain rfl := h6 (by omega)
      clear h6 h1 h0
      go_enter Tryd.func48, Tryd.ntmps48
      go_wp2_with fail
      go_region
      all_goals (go_wp2_with fail)
      all_goals (go_ret; exact ⟨(by first | rfl | (simp; done) | (simp [*]; done) | (rw [if_pos (by omega)]; first | rfl | (simp; done)) | (rw [if_neg (by omega)]; first | rfl | (simp; done)) | (simp; omega)), (by repeat (first | exact Below.refl _ _ | apply below_alloc | apply pw_below_drewN | apply below_drew1 | (refine Below.setCell ?_ (by first | (simp; done) | (simp; omega) | omega) _) ))⟩)
    · obtain rfl := h6 (by omega)
      clear h6 h1 h0
      go_enter Tryd.func48, Tryd.ntmps48
      go_wp2_with fail
      go_region
      all_goals (go_wp2_with fail)
      all_goals (go_ret; exact ⟨(by first | rfl | (simp; done) | (simp [*]; done) | (rw [if_pos (by omega)]; first | rfl | (simp; done)) | (rw [if_neg (by omega)]; first | rfl | (simp; done)) | (simp; omega)), (by repeat (first | exact Below.refl _ _ | apply below_alloc | apply pw_below_drewN | apply below_drew1 | (refine Below.setCell ?_ (by first | (simp; done) | (simp; omega) | omega) _) ))⟩)
    · obtain rfl := h6 (by omega)
      clear h6 h1 h0
      go_enter Tryd.func48, Tryd.ntmps48
      go_wp2_with fail
      go_region
      all_goals (go_wp2_with fail)
      all_goals (go_ret; exact ⟨(by first | rfl | (simp; done) | (simp [*]; done) | (rw [if_pos (by omega)]; first | rfl | (simp; done)) | (rw [if_neg (by omega)]; first | rfl | (simp; done)) | (simp; omega)), (by repeat (first | exact Below.refl _ _ | apply below_alloc | apply pw_below_drewN | apply below_drew1 | (refine Below.setCell ?_ (by first | (simp; done) | (simp; omega) | omega) _) ))⟩)
    · obtain rfl := h6 (by omega)
      clear h6 h1 h0
      go_enter Tryd.func48, Tryd.ntmps48
      go_wp2_with fail
      go_region
      all_goals (go_wp2_with fail)
      all_goals (go_ret; exact ⟨(by first | rfl | (simp; done) | (simp [*]; done) | (rw [if_pos (by omega)]; first | rfl | (simp; done)) | (rw [if_neg (by omega)]; first | rfl | (simp; done)) | (simp; omega)), (by repeat (first | exact Below.refl _ _ | apply below_alloc | apply pw_below_drewN | apply below_drew1 | (refine Below.setCell ?_ (by first | (simp; done) | (simp; omega) | omega) _) ))⟩)
    · obtain rfl := h1 (by omega) g5
      clear h6 h1 h0
      have g5' : (2000 : Int) < tx.size := by omega
      go_enter Tryd.func48, Tryd.ntmps48
      go_wp2_with fail
      go_region
      all_goals (go_wp2_with fail)
      all_goals (go_ret; exact ⟨(by first | rfl | (simp; done) | (simp [*]; done) | (rw [if_pos (by omega)]; first | rfl | (simp; done)) | (rw [if_neg (by omega)]; first | rfl | (simp; done)) | (simp; omega)), (by repeat (first | exact Below.refl _ _ | apply below_alloc | apply pw_below_drewN | apply below_drew1 | (refine Below.setCell ?_ (by first | (simp; done) | (simp; omega) | omega) _) ))⟩)
    · replace h0 := h0 (by omega) (by omega)
      have g5' : ¬ (2000 : Int) < tx.size := by omega
      clear h6 h1
      replace h0 : r = nameFault bx := by rw [h0, if_neg (by omega), nameTail]; simp only; split <;> simp_all
      have HN := fun w => ruleName_calls bx w (by omega)
      generalize nameFault bx = nf at *
      subst h0
      have HN := Lib.hid HN
      by_cases hz : r = 0
      · subst hz
        go_enter Tryd.func48, Tryd.ntmps48
        go_wp2_with fail
        go_region
        all_goals (go_wp2_with fail; refine (HN.out _).mono ?_; rintro e w1 ⟨rfl, rfl⟩; go_wp2_with fail)
        all_goals (go_ret; exact ⟨(by first | rfl | (simp; done) | (simp [*]; done) | (rw [if_pos (by omega)]; first | rfl | (simp; done)) | (rw [if_neg (by omega)]; first | rfl | (simp; done)) | (simp; omega)), (by repeat (first | exact Below.refl _ _ | apply below_alloc | apply pw_below_drewN | apply below_drew1 | (refine Below.setCell ?_ (by first | (simp; done) | (simp; omega) | omega) _) ))⟩)
      · have e1 : (r != 0) = true := by rw [bne_iff_ne]; exact hz
        clear hz
        go_enter Tryd.func48, Tryd.ntmps48
        go_wp2_with fail
        go_region
        all_goals (go_wp2_with fail; refine (HN.out _).mono ?_; rintro e w1 ⟨rfl, rfl⟩; go_wp2_with fail)
        all_goals (go_ret; exact ⟨(by first | rfl | (simp; done) | (simp [*]; done) | (rw [if_pos (by omega)]; first | rfl | (simp; done)) | (rw [if_neg (by omega)]; first | rfl | (simp; done)) | (simp; omega)), (by repeat (first | exact Below.refl _ _ | apply below_alloc | apply pw_below_drewN | apply below_drew1 | (refine Below.setCell ?_ (by first | (simp; done) | (simp; omega) | omega) _) ))⟩)
set_option maxHeartbeats 8000000 in
set_option maxRecDepth 100000 in
theorem form_4 (bx : ByteArray) (u f : Int) (to_ tx : ByteArray) (m : Int) (w : World) (hb : bx.size ≤ 1048576) (ht : to_.size ≤ 1048576) (hx : tx.size ≤ 1048576) (hm : w.cell? ⟨6, 0, none⟩ = some (.int .i64 m)) (hg : 6 < w.heap.size) :
    Calls Tryd.prog 48 #[.agg #[.int .i64 4, .string bx, .int .i64 u, .int .i64 f, .string to_, .string tx]] w fun e w' => e = .returned (.int .i64 (entryFault ⟨4, bx, u, f, to_, tx⟩)) ∧ Below w.heap.size w w' := by
  have hk : ¬ ((⟨4, bx, u, f, to_, tx⟩ : AEntry).kind < 1 ∨ 6 < (⟨4, bx, u, f, to_, tx⟩ : AEntry).kind) := by show ¬ ((4 : Int) < 1 ∨ 6 < (4 : Int)); omega
  have hbare : bareE ⟨4, bx, u, f, to_, tx⟩ = (⟨4, bx, 0, 0, ⟨#[]⟩, ⟨#[]⟩⟩ : AEntry) := rfl
  have h3 := fun h => ef_form (x := ⟨4, bx, u, f, to_, tx⟩) hk h
  have h6 := fun h h2 => ef_range (x := ⟨4, bx, u, f, to_, tx⟩) hk h h2
  have h1 := fun h h2 h3 => ef_size (x := ⟨4, bx, u, f, to_, tx⟩) hk h h2 h3
  have h0 := fun h h2 h3 => ef_tail (x := ⟨4, bx, u, f, to_, tx⟩) hk h h2 h3
  rw [hbare] at h3 h6 h1 h0
  simp only at h6 h1 h0
  generalize entryFault ⟨4, bx, u, f, to_, tx⟩ = r at *
  clear hbare hk
  cases hq : eqbAEntry ⟨4, bx, u, f, to_, tx⟩ (⟨4, bx, 0, 0, ⟨#[]⟩, ⟨#[]⟩⟩ : AEntry) with
  | false =>
    obtain rfl := h3 hq
    clear h3 h6 h1 h0
    go_enter Tryd.func48, Tryd.ntmps48
    go_wp2_with fail
    skip
    all_goals (go_wp2_with fail)
    all_goals (go_ret; exact ⟨(by first | rfl | (simp; done) | (simp [*]; done) | (rw [if_pos (by omega)]; first | rfl | (simp; done)) | (rw [if_neg (by omega)]; first | rfl | (simp; done)) | (simp; omega)), (by repeat (first | exact Below.refl _ _ | apply below_alloc | apply pw_below_drewN | apply below_drew1 | (refine Below.setCell ?_ (by first | (simp; done) | (simp; omega) | omega) _) ))⟩)
  | true =>
    replace h6 := h6 hq
    replace h1 := h1 hq
    replace h0 := h0 hq
    clear h3
    rcases (by omega : f < 0 ∨ (0 ≤ f ∧ 31 < f) ∨ (0 ≤ f ∧ f ≤ 31 ∧ u < 0) ∨ (0 ≤ f ∧ f ≤ 31 ∧ 0 ≤ u ∧ 1048576 < u) ∨ (0 ≤ f ∧ f ≤ 31 ∧ 0 ≤ u ∧ u ≤ 1048576 ∧ 2000 < tx.size) ∨ (0 ≤ f ∧ f ≤ 31 ∧ 0 ≤ u ∧ u ≤ 1048576 ∧ tx.size ≤ 2000)) with g1 | ⟨g1, g2⟩ | ⟨g1, g2, g3⟩ | ⟨g1, g2, g3, g4⟩ | ⟨g1, g2, g3, g4, g5⟩ | ⟨g1, g2, g3, g4, g5⟩
    · obtain rfl := h6 (by omega)
      clear h6 h1 h0
      go_enter Tryd.func48, Tryd.ntmps48
      go_wp2_with fail
      skip
      all_goals (go_wp2_with fail)
      all_goals (go_ret; exact ⟨(by first | rfl | (simp; done) | (simp [*]; done) | (rw [if_pos (by omega)]; first | rfl | (simp; done)) | (rw [if_neg (by omega)]; first | rfl | (simp; done)) | (simp; omega)), (by repeat (first | exact Below.refl _ _ | apply below_alloc | apply pw_below_drewN | apply below_drew1 | (refine Below.setCell ?_ (by first | (simp; done) | (simp; omega) | omega) _) ))⟩)
    · obtain rfl := h6 (by omega)
      clear h6 h1 h0
      go_enter Tryd.func48, Tryd.ntmps48
      go_wp2_with fail
      skip
      all_goals (go_wp2_with fail)
      all_goals (go_ret; exact ⟨(by first | rfl | (simp; done) | (simp [*]; done) | (rw [if_pos (by omega)]; first | rfl | (simp; done)) | (rw [if_neg (by omega)]; first | rfl | (simp; done)) | (simp; omega)), (by repeat (first | exact Below.refl _ _ | apply below_alloc | apply pw_below_drewN | apply below_drew1 | (refine Below.setCell ?_ (by first | (simp; done) | (simp; omega) | omega) _) ))⟩)
    · obtain rfl := h6 (by omega)
      clear h6 h1 h0
      go_enter Tryd.func48, Tryd.ntmps48
      go_wp2_with fail
      skip
      all_goals (go_wp2_with fail)
      all_goals (go_ret; exact ⟨(by first | rfl | (simp; done) | (simp [*]; done) | (rw [if_pos (by omega)]; first | rfl | (simp; done)) | (rw [if_neg (by omega)]; first | rfl | (simp; done)) | (simp; omega)), (by repeat (first | exact Below.refl _ _ | apply below_alloc | apply pw_below_drewN | apply below_drew1 | (refine Below.setCell ?_ (by first | (simp; done) | (simp; omega) | omega) _) ))⟩)
    · obtain rfl := h6 (by omega)
      clear h6 h1 h0
      go_enter Tryd.func48, Tryd.ntmps48
      go_wp2_with fail
      skip
      all_goals (go_wp2_with fail)
      all_goals (go_ret; exact ⟨(by first | rfl | (simp; done) | (simp [*]; done) | (rw [if_pos (by omega)]; first | rfl | (simp; done)) | (rw [if_neg (by omega)]; first | rfl | (simp; done)) | (simp; omega)), (by repeat (first | exact Below.refl _ _ | apply below_alloc | apply pw_below_drewN | apply below_drew1 | (refine Below.setCell ?_ (by first | (simp; done) | (simp; omega) | omega) _) ))⟩)
    · obtain rfl := h1 (by omega) g5
      clear h6 h1 h0
      have g5' : (2000 : Int) < tx.size := by omega
      go_enter Tryd.func48, Tryd.ntmps48
      go_wp2_with fail
      skip
      all_goals (go_wp2_with fail)
      all_goals (go_ret; exact ⟨(by first | rfl | (simp; done) | (simp [*]; done) | (rw [if_pos (by omega)]; first | rfl | (simp; done)) | (rw [if_neg (by omega)]; first | rfl | (simp; done)) | (simp; omega)), (by repeat (first | exact Below.refl _ _ | apply below_alloc | apply pw_below_drewN | apply below_drew1 | (refine Below.setCell ?_ (by first | (simp; done) | (simp; omega) | omega) _) ))⟩)
    · replace h0 := h0 (by omega) (by omega)
      have g5' : ¬ (2000 : Int) < tx.size := by omega
      clear h6 h1
      replace h0 : r = nameFault bx := by rw [h0, if_neg (by omega), nameTail]; simp only; split <;> simp_all
      have HN := fun w => ruleName_calls bx w (by omega)
      generalize nameFault bx = nf at *
      subst h0
      have HN := Lib.hid HN
      by_cases hz : r = 0
      · subst hz
        go_enter Tryd.func48, Tryd.ntmps48
        go_wp2_with fail
        skip
        all_goals (go_wp2_with fail; refine (HN.out _).mono ?_; rintro e w1 ⟨rfl, rfl⟩; go_wp2_with fail)
        all_goals (go_ret; exact ⟨(by first | rfl | (simp; done) | (simp [*]; done) | (rw [if_pos (by omega)]; first | rfl | (simp; done)) | (rw [if_neg (by omega)]; first | rfl | (simp; done)) | (simp; omega)), (by repeat (first | exact Below.refl _ _ | apply below_alloc | apply pw_below_drewN | apply below_drew1 | (refine Below.setCell ?_ (by first | (simp; done) | (simp; omega) | omega) _) ))⟩)
      · have e1 : (r != 0) = true := by rw [bne_iff_ne]; exact hz
        clear hz
        go_enter Tryd.func48, Tryd.ntmps48
        go_wp2_with fail
        skip
        all_goals (go_wp2_with fail; refine (HN.out _).mono ?_; rintro e w1 ⟨rfl, rfl⟩; go_wp2_with fail)
        all_goals (go_ret; exact ⟨(by first | rfl | (simp; done) | (simp [*]; done) | (rw [if_pos (by omega)]; first | rfl | (simp; done)) | (rw [if_neg (by omega)]; first | rfl | (simp; done)) | (simp; omega)), (by repeat (first | exact Below.refl _ _ | apply below_alloc | apply pw_below_drewN | apply below_drew1 | (refine Below.setCell ?_ (by first | (simp; done) | (simp; omega) | omega) _) ))⟩)
set_option maxHeartbeats 8000000 in
set_option maxRecDepth 100000 in
theorem form_5 (bx : ByteArray) (u f : Int) (to_ tx : ByteArray) (m : Int) (w : World) (hb : bx.size ≤ 1048576) (ht : to_.size ≤ 1048576) (hx : tx.size ≤ 1048576) (hm : w.cell? ⟨6, 0, none⟩ = some (.int .i64 m)) (hg : 6 < w.heap.size) :
    Calls Tryd.prog 48 #[.agg #[.int .i64 5, .string bx, .int .i64 u, .int .i64 f, .string to_, .string tx]] w fun e w' => e = .returned (.int .i64 (entryFault ⟨5, bx, u, f, to_, tx⟩)) ∧ Below w.heap.size w w' := by
  have hk : ¬ ((⟨5, bx, u, f, to_, tx⟩ : AEntry).kind < 1 ∨ 6 < (⟨5, bx, u, f, to_, tx⟩ : AEntry).kind) := by show ¬ ((5 : Int) < 1 ∨ 6 < (5 : Int)); omega
  have hbare : bareE ⟨5, bx, u, f, to_, tx⟩ = (⟨5, bx, u, 0, to_, ⟨#[]⟩⟩ : AEntry) := rfl
  have h3 := fun h => ef_form (x := ⟨5, bx, u, f, to_, tx⟩) hk h
  have h6 := fun h h2 => ef_range (x := ⟨5, bx, u, f, to_, tx⟩) hk h h2
  have h1 := fun h h2 h3 => ef_size (x := ⟨5, bx, u, f, to_, tx⟩) hk h h2 h3
  have h0 := fun h h2 h3 => ef_tail (x := ⟨5, bx, u, f, to_, tx⟩) hk h h2 h3
  rw [hbare] at h3 h6 h1 h0
  simp only at h6 h1 h0
  generalize entryFault ⟨5, bx, u, f, to_, tx⟩ = r at *
  clear hbare hk
  cases hq : eqbAEntry ⟨5, bx, u, f, to_, tx⟩ (⟨5, bx, u, 0, to_, ⟨#[]⟩⟩ : AEntry) with
  | false =>
    obtain rfl := h3 hq
    clear h3 h6 h1 h0
    go_enter Tryd.func48, Tryd.ntmps48
    go_wp2_with fail
    go_region
    all_goals (go_wp2_with fail)
    all_goals (go_ret; exact ⟨(by first | rfl | (simp; done) | (simp [*]; done) | (rw [if_pos (by omega)]; first | rfl | (simp; done)) | (rw [if_neg (by omega)]; first | rfl | (simp; done)) | (simp; omega)), (by repeat (first | exact Below.refl _ _ | apply below_alloc | apply pw_below_drewN | apply below_drew1 | (refine Below.setCell ?_ (by first | (simp; done) | (simp; omega) | omega) _) ))⟩)
  | true =>
    replace h6 := h6 hq
    replace h1 := h1 hq
    replace h0 := h0 hq
    clear h3
    rcases (by omega : f < 0 ∨ (0 ≤ f ∧ 31 < f) ∨ (0 ≤ f ∧ f ≤ 31 ∧ u < 0) ∨ (0 ≤ f ∧ f ≤ 31 ∧ 0 ≤ u ∧ 1048576 < u) ∨ (0 ≤ f ∧ f ≤ 31 ∧ 0 ≤ u ∧ u ≤ 1048576 ∧ 2000 < tx.size) ∨ (0 ≤ f ∧ f ≤ 31 ∧ 0 ≤ u ∧ u ≤ 1048576 ∧ tx.size ≤ 2000)) with g1 | ⟨g1, g2⟩ | ⟨g1, g2, g3⟩ | ⟨g1, g2, g3, g4⟩ | ⟨g1, g2, g3, g4, g5⟩ | ⟨g1, g2, g3, g4, g5⟩
    · obtain rfl := h6 (by omega)
      clear h6 h1 h0
      go_enter Tryd.func48, Tryd.ntmps48
      go_wp2_with fail
      go_region
      all_goals (go_wp2_with fail)
      all_goals (go_ret; exact ⟨(by first | rfl | (simp; done) | (simp [*]; done) | (rw [if_pos (by omega)]; first | rfl | (simp; done)) | (rw [if_neg (by omega)]; first | rfl | (simp; done)) | (simp; omega)), (by repeat (first | exact Below.refl _ _ | apply below_alloc | apply pw_below_drewN | apply below_drew1 | (refine Below.setCell ?_ (by first | (simp; done) | (simp; omega) | omega) _) ))⟩)
    · obtain rfl := h6 (by omega)
      clear h6 h1 h0
      go_enter Tryd.func48, Tryd.ntmps48
      go_wp2_with fail
      go_region
      all_goals (go_wp2_with fail)
      all_goals (go_ret; exact ⟨(by first | rfl | (simp; done) | (simp [*]; done) | (rw [if_pos (by omega)]; first | rfl | (simp; done)) | (rw [if_neg (by omega)]; first | rfl | (simp; done)) | (simp; omega)), (by repeat (first | exact Below.refl _ _ | apply below_alloc | apply pw_below_drewN | apply below_drew1 | (refine Below.setCell ?_ (by first | (simp; done) | (simp; omega) | omega) _) ))⟩)
    · obtain rfl := h6 (by omega)
      clear h6 h1 h0
      go_enter Tryd.func48, Tryd.ntmps48
      go_wp2_with fail
      go_region
      all_goals (go_wp2_with fail)
      all_goals (go_ret; exact ⟨(by first | rfl | (simp; done) | (simp [*]; done) | (rw [if_pos (by omega)]; first | rfl | (simp; done)) | (rw [if_neg (by omega)]; first | rfl | (simp; done)) | (simp; omega)), (by repeat (first | exact Below.refl _ _ | apply below_alloc | apply pw_below_drewN | apply below_drew1 | (refine Below.setCell ?_ (by first | (simp; done) | (simp; omega) | omega) _) ))⟩)
    · obtain rfl := h6 (by omega)
      clear h6 h1 h0
      go_enter Tryd.func48, Tryd.ntmps48
      go_wp2_with fail
      go_region
      all_goals (go_wp2_with fail)
      all_goals (go_ret; exact ⟨(by first | rfl | (simp; done) | (simp [*]; done) | (rw [if_pos (by omega)]; first | rfl | (simp; done)) | (rw [if_neg (by omega)]; first | rfl | (simp; done)) | (simp; omega)), (by repeat (first | exact Below.refl _ _ | apply below_alloc | apply pw_below_drewN | apply below_drew1 | (refine Below.setCell ?_ (by first | (simp; done) | (simp; omega) | omega) _) ))⟩)
    · obtain rfl := h1 (by omega) g5
      clear h6 h1 h0
      have g5' : (2000 : Int) < tx.size := by omega
      go_enter Tryd.func48, Tryd.ntmps48
      go_wp2_with fail
      go_region
      all_goals (go_wp2_with fail)
      all_goals (go_ret; exact ⟨(by first | rfl | (simp; done) | (simp [*]; done) | (rw [if_pos (by omega)]; first | rfl | (simp; done)) | (rw [if_neg (by omega)]; first | rfl | (simp; done)) | (simp; omega)), (by repeat (first | exact Below.refl _ _ | apply below_alloc | apply pw_below_drewN | apply below_drew1 | (refine Below.setCell ?_ (by first | (simp; done) | (simp; omega) | omega) _) ))⟩)
    · replace h0 := h0 (by omega) (by omega)
      have g5' : ¬ (2000 : Int) < tx.size := by omega
      clear h6 h1
      replace h0 : r = if nameFault bx = 0 then nameFault to_ else nameFault bx := by rw [h0, if_neg (by omega), nameTail]; simp
      have HN := fun w => ruleName_calls bx w (by omega)
      have HM := fun w => ruleName_calls to_ w (by omega)
      generalize nameFault bx = nf at *
      generalize nameFault to_ = nt at *
      have HN := Lib.hid HN
      have HM := Lib.hid HM
      by_cases hz : nf = 0
      · subst hz
        rw [if_pos rfl] at h0
        subst h0
        go_enter Tryd.func48, Tryd.ntmps48
        go_wp2_with fail
        go_region
        all_goals (go_wp2_with fail; refine (HN.out _).mono ?_; rintro e w1 ⟨rfl, rfl⟩; go_wp2_with fail; refine (HM.out _).mono ?_; rintro e w2 ⟨rfl, rfl⟩; go_wp2_with fail)
        all_goals (go_ret; exact ⟨(by first | rfl | (simp; done) | (simp [*]; done) | (rw [if_pos (by omega)]; first | rfl | (simp; done)) | (rw [if_neg (by omega)]; first | rfl | (simp; done)) | (simp; omega)), (by repeat (first | exact Below.refl _ _ | apply below_alloc | apply pw_below_drewN | apply below_drew1 | (refine Below.setCell ?_ (by first | (simp; done) | (simp; omega) | omega) _) ))⟩)
      · rw [if_neg hz] at h0
        subst h0
        have e1 : (r != 0) = true := by rw [bne_iff_ne]; exact hz
        clear hz
        go_enter Tryd.func48, Tryd.ntmps48
        go_wp2_with fail
        go_region
        all_goals (go_wp2_with fail; refine (HN.out _).mono ?_; rintro e w1 ⟨rfl, rfl⟩; go_wp2_with fail)
        all_goals (go_ret; exact ⟨(by first | rfl | (simp; done) | (simp [*]; done) | (rw [if_pos (by omega)]; first | rfl | (simp; done)) | (rw [if_neg (by omega)]; first | rfl | (simp; done)) | (simp; omega)), (by repeat (first | exact Below.refl _ _ | apply below_alloc | apply pw_below_drewN | apply below_drew1 | (refine Below.setCell ?_ (by first | (simp; done) | (simp; omega) | omega) _) ))⟩)
set_option maxHeartbeats 8000000 in
set_option maxRecDepth 100000 in
theorem form_6 (bx : ByteArray) (u f : Int) (to_ tx : ByteArray) (m : Int) (w : World) (hb : bx.size ≤ 1048576) (ht : to_.size ≤ 1048576) (hx : tx.size ≤ 1048576) (hm : w.cell? ⟨6, 0, none⟩ = some (.int .i64 m)) (hg : 6 < w.heap.size) :
    Calls Tryd.prog 48 #[.agg #[.int .i64 6, .string bx, .int .i64 u, .int .i64 f, .string to_, .string tx]] w fun e w' => e = .returned (.int .i64 (entryFault ⟨6, bx, u, f, to_, tx⟩)) ∧ Below w.heap.size w w' := by
  have hk : ¬ ((⟨6, bx, u, f, to_, tx⟩ : AEntry).kind < 1 ∨ 6 < (⟨6, bx, u, f, to_, tx⟩ : AEntry).kind) := by show ¬ ((6 : Int) < 1 ∨ 6 < (6 : Int)); omega
  have hbare : bareE ⟨6, bx, u, f, to_, tx⟩ = (⟨6, ⟨#[]⟩, 0, 0, to_, tx⟩ : AEntry) := rfl
  have h3 := fun h => ef_form (x := ⟨6, bx, u, f, to_, tx⟩) hk h
  have h6 := fun h h2 => ef_range (x := ⟨6, bx, u, f, to_, tx⟩) hk h h2
  have h1 := fun h h2 h3 => ef_size (x := ⟨6, bx, u, f, to_, tx⟩) hk h h2 h3
  have h0 := fun h h2 h3 => ef_tail (x := ⟨6, bx, u, f, to_, tx⟩) hk h h2 h3
  rw [hbare] at h3 h6 h1 h0
  simp only at h6 h1 h0
  generalize entryFault ⟨6, bx, u, f, to_, tx⟩ = r at *
  clear hbare hk
  cases hq : eqbAEntry ⟨6, bx, u, f, to_, tx⟩ (⟨6, ⟨#[]⟩, 0, 0, to_, tx⟩ : AEntry) with
  | false =>
    obtain rfl := h3 hq
    clear h3 h6 h1 h0
    go_enter Tryd.func48, Tryd.ntmps48
    go_wp2_with fail
    go_region
    all_goals (go_wp2_with fail)
    all_goals (go_ret; exact ⟨(by first | rfl | (simp; done) | (simp [*]; done) | (rw [if_pos (by omega)]; first | rfl | (simp; done)) | (rw [if_neg (by omega)]; first | rfl | (simp; done)) | (simp; omega)), (by repeat (first | exact Below.refl _ _ | apply below_alloc | apply pw_below_drewN | apply below_drew1 | (refine Below.setCell ?_ (by first | (simp; done) | (simp; omega) | omega) _) ))⟩)
  | true =>
    replace h6 := h6 hq
    replace h1 := h1 hq
    replace h0 := h0 hq
    clear h3
    rcases (by omega : f < 0 ∨ (0 ≤ f ∧ 31 < f) ∨ (0 ≤ f ∧ f ≤ 31 ∧ u < 0) ∨ (0 ≤ f ∧ f ≤ 31 ∧ 0 ≤ u ∧ 1048576 < u) ∨ (0 ≤ f ∧ f ≤ 31 ∧ 0 ≤ u ∧ u ≤ 1048576 ∧ 2000 < tx.size) ∨ (0 ≤ f ∧ f ≤ 31 ∧ 0 ≤ u ∧ u ≤ 1048576 ∧ tx.size ≤ 2000)) with g1 | ⟨g1, g2⟩ | ⟨g1, g2, g3⟩ | ⟨g1, g2, g3, g4⟩ | ⟨g1, g2, g3, g4, g5⟩ | ⟨g1, g2, g3, g4, g5⟩
    · obtain rfl := h6 (by omega)
      clear h6 h1 h0
      go_enter Tryd.func48, Tryd.ntmps48
      go_wp2_with fail
      go_region
      all_goals (go_wp2_with fail)
      all_goals (go_ret; exact ⟨(by first | rfl | (simp; done) | (simp [*]; done) | (rw [if_pos (by omega)]; first | rfl | (simp; done)) | (rw [if_neg (by omega)]; first | rfl | (simp; done)) | (simp; omega)), (by repeat (first | exact Below.refl _ _ | apply below_alloc | apply pw_below_drewN | apply below_drew1 | (refine Below.setCell ?_ (by first | (simp; done) | (simp; omega) | omega) _) ))⟩)
    · obtain rfl := h6 (by omega)
      clear h6 h1 h0
      go_enter Tryd.func48, Tryd.ntmps48
      go_wp2_with fail
      go_region
      all_goals (go_wp2_with fail)
      all_goals (go_ret; exact ⟨(by first | rfl | (simp; done) | (simp [*]; done) | (rw [if_pos (by omega)]; first | rfl | (simp; done)) | (rw [if_neg (by omega)]; first | rfl | (simp; done)) | (simp; omega)), (by repeat (first | exact Below.refl _ _ | apply below_alloc | apply pw_below_drewN | apply below_drew1 | (refine Below.setCell ?_ (by first | (simp; done) | (simp; omega) | omega) _) ))⟩)
    · obtain rfl := h6 (by omega)
      clear h6 h1 h0
      go_enter Tryd.func48, Tryd.ntmps48
      go_wp2_with fail
      go_region
      all_goals (go_wp2_with fail)
      all_goals (go_ret; exact ⟨(by first | rfl | (simp; done) | (simp [*]; done) | (rw [if_pos (by omega)]; first | rfl | (simp; done)) | (rw [if_neg (by omega)]; first | rfl | (simp; done)) | (simp; omega)), (by repeat (first | exact Below.refl _ _ | apply below_alloc | apply pw_below_drewN | apply below_drew1 | (refine Below.setCell ?_ (by first | (simp; done) | (simp; omega) | omega) _) ))⟩)
    · obtain rfl := h6 (by omega)
      clear h6 h1 h0
      go_enter Tryd.func48, Tryd.ntmps48
      go_wp2_with fail
      go_region
      all_goals (go_wp2_with fail)
      all_goals (go_ret; exact ⟨(by first | rfl | (simp; done) | (simp [*]; done) | (rw [if_pos (by omega)]; first | rfl | (simp; done)) | (rw [if_neg (by omega)]; first | rfl | (simp; done)) | (simp; omega)), (by repeat (first | exact Below.refl _ _ | apply below_alloc | apply pw_below_drewN | apply below_drew1 | (refine Below.setCell ?_ (by first | (simp; done) | (simp; omega) | omega) _) ))⟩)
    · obtain rfl := h1 (by omega) g5
      clear h6 h1 h0
      have g5' : (2000 : Int) < tx.size := by omega
      go_enter Tryd.func48, Tryd.ntmps48
      go_wp2_with fail
      go_region
      all_goals (go_wp2_with fail)
      all_goals (go_ret; exact ⟨(by first | rfl | (simp; done) | (simp [*]; done) | (rw [if_pos (by omega)]; first | rfl | (simp; done)) | (rw [if_neg (by omega)]; first | rfl | (simp; done)) | (simp; omega)), (by repeat (first | exact Below.refl _ _ | apply below_alloc | apply pw_below_drewN | apply below_drew1 | (refine Below.setCell ?_ (by first | (simp; done) | (simp; omega) | omega) _) ))⟩)
    · replace h0 := h0 (by omega) (by omega)
      have g5' : ¬ (2000 : Int) < tx.size := by omega
      clear h6 h1
      rw [if_pos (by trivial), spoolFault] at h0
      have HL := fun w hm hg => list_calls to_ m w ht hm hg
      generalize listV to_ = lv at *
      obtain ⟨n, l⟩ := lv
      simp only at h0
      have HL := Lib.hid HL
      by_cases hn : n = 0
      · subst hn
        by_cases hl : l.length = 1
        · have hl' : (l.length : Int) = 1 := by omega
          by_cases h100 : to_.size ≤ 100
          · rw [if_pos ⟨rfl, hl, h100⟩] at h0
            subst h0
            have h100' : ¬ (100 : Int) < to_.size := by omega
            go_enter Tryd.func48, Tryd.ntmps48
            go_wp2_with fail
            go_region
            all_goals (go_wp2_with fail; refine (HL.out _ (cell_below (B := w.heap.size) (by repeat (first | exact Below.refl _ _ | apply below_alloc | apply pw_below_drewN | apply below_drew1 | (refine Below.setCell ?_ (by first | (simp; done) | (simp; omega) | omega) _) )) hm hg) (by first | (simp; done) | (simp; omega) | omega)).mono ?_; intro e w1 hw1; obtain ⟨v, rfl, hR1, hb1⟩ := hw1; obtain ⟨A1, c1, rfl⟩ := Kd.R_slice hR1; have hc1 : w1.cell? ⟨w.heap.size, 4, none⟩ = some (.string to_) := (hb1.cell (p := ⟨w.heap.size, 4, none⟩) (by first | (simp; done) | (simp; omega) | omega)).trans (by simp); go_wp2_with fail)
            all_goals (go_ret; exact ⟨(by first | rfl | (simp; done) | (simp [*]; done) | (rw [if_pos (by omega)]; first | rfl | (simp; done)) | (rw [if_neg (by omega)]; first | rfl | (simp; done)) | (simp; omega)), (by repeat (first | exact Below.refl _ _ | apply below_alloc | apply pw_below_drewN | apply below_drew1 | (refine Below.setCell ?_ (by first | (simp; done) | (simp; omega) | omega) _) | (refine below_then ?_ (by first | (simp; done) | (simp; omega) | omega) hb1)))⟩)
          · rw [if_neg (fun h => h100 h.2.2)] at h0
            subst h0
            have h100' : (100 : Int) < to_.size := by omega
            go_enter Tryd.func48, Tryd.ntmps48
            go_wp2_with fail
            go_region
            all_goals (go_wp2_with fail; refine (HL.out _ (cell_below (B := w.heap.size) (by repeat (first | exact Below.refl _ _ | apply below_alloc | apply pw_below_drewN | apply below_drew1 | (refine Below.setCell ?_ (by first | (simp; done) | (simp; omega) | omega) _) )) hm hg) (by first | (simp; done) | (simp; omega) | omega)).mono ?_; intro e w1 hw1; obtain ⟨v, rfl, hR1, hb1⟩ := hw1; obtain ⟨A1, c1, rfl⟩ := Kd.R_slice hR1; have hc1 : w1.cell? ⟨w.heap.size, 4, none⟩ = some (.string to_) := (hb1.cell (p := ⟨w.heap.size, 4, none⟩) (by first | (simp; done) | (simp; omega) | omega)).trans (by simp); go_wp2_with fail)
            all_goals (go_ret; exact ⟨(by first | rfl | (simp; done) | (simp [*]; done) | (rw [if_pos (by omega)]; first | rfl | (simp; done)) | (rw [if_neg (by omega)]; first | rfl | (simp; done)) | (simp; omega)), (by repeat (first | exact Below.refl _ _ | apply below_alloc | apply pw_below_drewN | apply below_drew1 | (refine Below.setCell ?_ (by first | (simp; done) | (simp; omega) | omega) _) | (refine below_then ?_ (by first | (simp; done) | (simp; omega) | omega) hb1)))⟩)
        · rw [if_neg (fun h => hl h.2.1)] at h0
          subst h0
          have hl' : ((l.length : Int) != 1) = true := by rw [bne_iff_ne]; omega
          go_enter Tryd.func48, Tryd.ntmps48
          go_wp2_with fail
          go_region
          all_goals (go_wp2_with fail; refine (HL.out _ (cell_below (B := w.heap.size) (by repeat (first | exact Below.refl _ _ | apply below_alloc | apply pw_below_drewN | apply below_drew1 | (refine Below.setCell ?_ (by first | (simp; done) | (simp; omega) | omega) _) )) hm hg) (by first | (simp; done) | (simp; omega) | omega)).mono ?_; intro e w1 hw1; obtain ⟨v, rfl, hR1, hb1⟩ := hw1; obtain ⟨A1, c1, rfl⟩ := Kd.R_slice hR1; have hc1 : w1.cell? ⟨w.heap.size, 4, none⟩ = some (.string to_) := (hb1.cell (p := ⟨w.heap.size, 4, none⟩) (by first | (simp; done) | (simp; omega) | omega)).trans (by simp); go_wp2_with fail)
          all_goals (go_ret; exact ⟨(by first | rfl | (simp; done) | (simp [*]; done) | (rw [if_pos (by omega)]; first | rfl | (simp; done)) | (rw [if_neg (by omega)]; first | rfl | (simp; done)) | (simp; omega)), (by repeat (first | exact Below.refl _ _ | apply below_alloc | apply pw_below_drewN | apply below_drew1 | (refine Below.setCell ?_ (by first | (simp; done) | (simp; omega) | omega) _) | (refine below_then ?_ (by first | (simp; done) | (simp; omega) | omega) hb1)))⟩)
      · rw [if_neg (fun h => hn h.1)] at h0
        subst h0
        have e1 : (n != 0) = true := by rw [bne_iff_ne]; exact hn
        clear hn
        go_enter Tryd.func48, Tryd.ntmps48
        go_wp2_with fail
        go_region
        all_goals (go_wp2_with fail; refine (HL.out _ (cell_below (B := w.heap.size) (by repeat (first | exact Below.refl _ _ | apply below_alloc | apply pw_below_drewN | apply below_drew1 | (refine Below.setCell ?_ (by first | (simp; done) | (simp; omega) | omega) _) )) hm hg) (by first | (simp; done) | (simp; omega) | omega)).mono ?_; intro e w1 hw1; obtain ⟨v, rfl, hR1, hb1⟩ := hw1; obtain ⟨A1, c1, rfl⟩ := Kd.R_slice hR1; have hc1 : w1.cell? ⟨w.heap.size, 4, none⟩ = some (.string to_) := (hb1.cell (p := ⟨w.heap.size, 4, none⟩) (by first | (simp; done) | (simp; omega) | omega)).trans (by simp); go_wp2_with fail)
        all_goals (go_ret; exact ⟨(by first | rfl | (simp; done) | (simp [*]; done) | (rw [if_pos (by omega)]; first | rfl | (simp; done)) | (rw [if_neg (by omega)]; first | rfl | (simp; done)) | (simp; omega)), (by repeat (first | exact Below.refl _ _ | apply below_alloc | apply pw_below_drewN | apply below_drew1 | (refine Below.setCell ?_ (by first | (simp; done) | (simp; omega) | omega) _) | (refine below_then ?_ (by first | (simp; done) | (simp; omega) | omega) hb1)))⟩)
set_option maxHeartbeats 1000000 in
set_option maxRecDepth 100000 in
theorem form_else (k : Int) (bx : ByteArray) (u f : Int) (to_ tx : ByteArray) (w : World) (hk : k < 1 ∨ 6 < k) :
    Calls Tryd.prog 48 #[.agg #[.int .i64 k, .string bx, .int .i64 u, .int .i64 f, .string to_, .string tx]] w fun e w' => e = .returned (.int .i64 (entryFault ⟨k, bx, u, f, to_, tx⟩)) ∧ Below w.heap.size w w' := by
  rw [ef_kind (x := ⟨k, bx, u, f, to_, tx⟩) hk]
  have k1 : (k == 1) = false := by rw [beq_eq_false_iff_ne]; omega
  have k2 : (k == 2) = false := by rw [beq_eq_false_iff_ne]; omega
  have k3 : (k == 3) = false := by rw [beq_eq_false_iff_ne]; omega
  have k4 : (k == 4) = false := by rw [beq_eq_false_iff_ne]; omega
  have k5 : (k == 5) = false := by rw [beq_eq_false_iff_ne]; omega
  have k6 : (k == 6) = false := by rw [beq_eq_false_iff_ne]; omega
  clear hk
  go_enter Tryd.func48, Tryd.ntmps48
  go_wp2_with fail
  go_ret
  exact ⟨(by first | rfl | (simp; done) | (simp [*]; done) | (rw [if_pos (by omega)]; first | rfl | (simp; done)) | (rw [if_neg (by omega)]; first | rfl | (simp; done)) | (simp; omega)), (by repeat (first | exact Below.refl _ _ | apply below_alloc | apply pw_below_drewN | apply below_drew1 | (refine Below.setCell ?_ (by first | (simp; done) | (simp; omega) | omega) _) ))⟩
theorem form_calls (x : AEntry) (m : Int) (w : World) (hb : x.box.size ≤ 1048576) (ht : x.to_.size ≤ 1048576) (hx : x.text.size ≤ 1048576) (hm : w.cell? ⟨6, 0, none⟩ = some (.int .i64 m)) (hg : 6 < w.heap.size) :
    Calls Tryd.prog 48 #[.agg #[.int .i64 x.kind, .string x.box, .int .i64 x.uid, .int .i64 x.flags, .string x.to_, .string x.text]] w fun e w' => e = .returned (.int .i64 (entryFault x)) ∧ Below w.heap.size w w' := by
  obtain ⟨k, bx, u, f, to_, tx⟩ := x
  rcases (by omega : (k < 1 ∨ 6 < k) ∨ k = 1 ∨ k = 2 ∨ k = 3 ∨ k = 4 ∨ k = 5 ∨ k = 6) with h | rfl | rfl | rfl | rfl | rfl | rfl
  · exact form_else k bx u f to_ tx w h
  · exact form_1 bx u f to_ tx m w hb ht hx hm hg
  · exact form_2 bx u f to_ tx m w hb ht hx hm hg
  · exact form_3 bx u f to_ tx m w hb ht hx hm hg
  · exact form_4 bx u f to_ tx m w hb ht hx hm hg
  · exact form_5 bx u f to_ tx m w hb ht hx hm hg
  · exact form_6 bx u f to_ tx m w hb ht hx hm hg
end Go.Proofs.YtijdghplfhfpaaaDoor.H

/- Boxes: box.Check. -/
namespace Go.Proofs.YtijdghplfhfpaaaDoor.H
open Go.RowKit Go.Proofs.YtijdghplfhfpaaaDoorW.PrintWords Go.Proofs.YtijdghplfhfpaaaDoorW.PrintLast Go.Proofs.YtijdghplfhfpaaaDoor.U
set_option linter.unusedVariables false
set_option linter.unusedSimpArgs false
def boxesFrom (bs : List ABox) (k : Nat) : Bool :=
  if h : k < bs.length then (if boxOk bs[k] = true ∧ findG bs[k].1 (bs.take k) 0 < 0 then boxesFrom bs (k + 1) else false) else true
termination_by bs.length - k
theorem boxes_bad {bs : List ABox} {k : Nat} (h : k < bs.length) (h2 : ¬ (boxOk bs[k] = true ∧ findG bs[k].1 (bs.take k) 0 < 0)) : boxesFrom bs k = false := by rw [boxesFrom, dif_pos h, if_neg h2]
theorem boxes_good {bs : List ABox} {k : Nat} (h : k < bs.length) (h1 : boxOk bs[k] = true) (h2 : findG bs[k].1 (bs.take k) 0 < 0) : boxesFrom bs k = boxesFrom bs (k + 1) := by
  conv => lhs; rw [boxesFrom, dif_pos h, if_pos ⟨h1, h2⟩]
theorem boxes_end {bs : List ABox} {k : Nat} (h : ¬ k < bs.length) : boxesFrom bs k = true := by rw [boxesFrom, dif_neg h]
def spoolOk : List AEntry → Bool
  | [] => true
  | x :: l => if x.kind = 6 ∧ entryFault x = 0 then spoolOk l else false
theorem spool_bad {l : List AEntry} {k : Nat} (h : k < l.length) (h2 : ¬ (l[k].kind = 6 ∧ entryFault l[k] = 0)) : spoolOk (l.drop k) = false := by rw [List.drop_eq_getElem_cons h, spoolOk, if_neg h2]
theorem spool_good {l : List AEntry} {k : Nat} (h : k < l.length) (h1 : l[k].kind = 6) (h2 : entryFault l[k] = 0) : spoolOk (l.drop k) = spoolOk (l.drop (k + 1)) := by rw [List.drop_eq_getElem_cons h, spoolOk, if_pos ⟨h1, h2⟩]
theorem spool_end (l : List AEntry) : spoolOk (l.drop l.length) = true := by rw [List.drop_length]; rfl
/-- What is wrong with a state, behind the lengths. -/
def stTail (bs : List ABox) (es : List AEntry) : Int := if boxesFrom bs 0 = true then (if spoolOk es = true then (if 6000 < stSize bs then 11 else 0) else 11) else 11
def stFault (bs : List ABox) (es : List AEntry) : Int := if 5 < bs.length ∨ 20 < es.length then 11 else stTail bs es
def okSt (bs : List ABox) (es : List AEntry) : Prop := (∀ b ∈ bs, b.1.size ≤ 1048576) ∧ ∀ x ∈ es, x.box.size ≤ 1048576 ∧ x.to_.size ≤ 1048576 ∧ x.text.size ≤ 1048576
theorem mails_sz {nx : Int} {l : List AMail} : ∀ {last : Int}, mailsOk nx last l = true → mailsSize l ≤ l.length * 2000 := by
  induction l with
  | nil => intro last _; simp [mailsSize]
  | cons m l ih =>
    intro last h
    rw [mailsOk] at h
    by_cases hb : mailBad nx last m
    · rw [if_pos hb] at h; cases h
    · rw [if_neg hb] at h
      have h1 := ih h
      have h2 : ¬ 2000 < m.text.size := fun h3 => hb (.inr (.inr (.inr (.inr h3))))
      unfold mailsSize at *
      rw [List.map_cons, List.sum_cons, List.length_cons]; omega
theorem box_sz {b : ABox} (h : boxOk b = true) : mailsSize b.2.2 ≤ 60000 := by
  unfold boxOk at h
  split at h
  · cases h
  · rename_i h2
    have h3 := mails_sz h
    have h4 : ¬ 30 < b.2.2.length := fun h5 => h2 (.inr (.inr (.inr h5)))
    omega
theorem boxes_sz {bs : List ABox} : ∀ (n k : Nat), bs.length - k = n → boxesFrom bs k = true → stSize (bs.drop k) ≤ (bs.length - k) * 60000 := by
  intro n
  induction n with
  | zero =>
    intro k hk _
    rw [List.drop_eq_nil_of_le (by omega)]; exact Nat.zero_le _
  | succ n ih =>
    intro k hk h
    have hlt : k < bs.length := by omega
    rw [boxesFrom, dif_pos hlt] at h
    by_cases hb : boxOk bs[k] = true ∧ findG bs[k].1 (bs.take k) 0 < 0
    · rw [if_pos hb] at h
      have h1 := ih (k + 1) (by omega) h
      have h2 := box_sz hb.1
      rw [st_step hlt]
      have h3 : (bs.length - k) * 60000 = (bs.length - (k + 1)) * 60000 + 60000 := by
        rw [show bs.length - k = (bs.length - (k + 1)) + 1 by omega, Nat.add_mul]
      omega
    · rw [if_neg hb] at h; cases h
end Go.Proofs.YtijdghplfhfpaaaDoor.H

/- Boxes: what an entry does to a state, in plain words; what stays true. -/
namespace Go.Proofs.YtijdghplfhfpaaaDoor.H
open Go.RowKit Go.Proofs.YtijdghplfhfpaaaDoorW.PrintWords Go.Proofs.YtijdghplfhfpaaaDoorW.PrintLast Go.Proofs.YtijdghplfhfpaaaDoor.U
set_option linter.unusedVariables false
set_option linter.unusedSimpArgs false
/-- Where the first mail with a uid stands; -1: there is none. -/
def findU (u : Int) : List AMail → Int → Int
  | [], _ => -1
  | m :: l, k => if m.uid = u then k else findU u l (k + 1)
def keepM (m : AMail) : Bool := decide (m.flags / 8 % 2 = 0)
def addV (bs : List ABox) (i : Nat) (fl : Int) (tx : ByteArray) : Int × List ABox :=
  match bs[i]? with
  | none => (5, bs)
  | some b => if 30 ≤ b.2.2.length ∨ 1048576 < b.2.1 ∨ 6000 < stSize bs + tx.size then (5, bs) else (0, bs.set i (b.1, b.2.1 + 1, b.2.2 ++ [⟨b.2.1, fl, tx⟩]))
def mailsAt (bs : List ABox) (i : Nat) : List AMail := match bs[i]? with | none => [] | some b => b.2.2
def putMails (bs : List ABox) (i : Nat) (l : List AMail) : List ABox := match bs[i]? with | none => bs | some b => bs.set i (b.1, b.2.1, l)
def flagsAt (l : List AMail) (k : Nat) (f : Int) : List AMail := match l[k]? with | none => l | some m => l.set k ⟨m.uid, f, m.text⟩
def copyV (bs : List ABox) (l : List AMail) (k : Nat) (z : Int) : Int × List ABox :=
  if z < 0 then (7, bs) else match l[k]? with | none => (7, bs) | some m => addV bs z.toNat m.flags m.text
def mailV (bs : List ABox) (i : Nat) (x : AEntry) : Int × List ABox :=
  if x.kind = 2 then addV bs i x.flags x.text
  else if x.kind = 4 then (0, putMails bs i ((mailsAt bs i).filter keepM))
  else if findU x.uid (mailsAt bs i) 0 < 0 then (7, bs)
  else if x.kind = 3 then (0, putMails bs i (flagsAt (mailsAt bs i) (findU x.uid (mailsAt bs i) 0).toNat x.flags))
  else copyV bs (mailsAt bs i) (findU x.uid (mailsAt bs i) 0).toNat (findG x.to_ bs 0)
def entV (bs : List ABox) (es : List AEntry) (x : AEntry) : Int × List ABox × List AEntry :=
  if x.kind = 6 then (if 20 ≤ es.length then (5, bs, es) else (0, bs, es ++ [x]))
  else if x.kind = 1 then (if 0 ≤ findG x.box bs 0 then (10, bs, es) else if 5 ≤ bs.length then (5, bs, es) else (0, bs ++ [(x.box, 1, [])], es))
  else if findG x.box bs 0 < 0 then (7, bs, es)
  else ((mailV bs (findG x.box bs 0).toNat x).1, (mailV bs (findG x.box bs 0).toNat x).2, es)
def foldE : List ABox → List AEntry → List AEntry → Int × List ABox × List AEntry
  | bs, es, [] => (0, bs, es)
  | bs, es, x :: l => if entryFault x ≠ 0 then (entryFault x, [], []) else if (entV bs es x).1 ≠ 0 then ((entV bs es x).1, [], []) else foldE (entV bs es x).2.1 (entV bs es x).2.2 l
def allV (bs : List ABox) (es l : List AEntry) : Int × List ABox × List AEntry :=
  if stFault bs es ≠ 0 then (stFault bs es, [], []) else if 10 < l.length then (1, [], []) else foldE bs es l
/-- What may be, of a box: what the steps want. -/
def GoodB (b : ABox) : Prop := b.1.size ≤ 1048576 ∧ 1 ≤ b.2.1 ∧ b.2.1 ≤ 1048577 ∧ b.2.2.length ≤ 30 ∧ mailsOk b.2.1 0 b.2.2 = true
def InvS (bs : List ABox) (es : List AEntry) : Prop := bs.length ≤ 5 ∧ es.length ≤ 20 ∧ ∀ b ∈ bs, GoodB b
theorem mails_cons {nx last : Int} {m : AMail} {l : List AMail} : mailsOk nx last (m :: l) = true ↔ ¬ mailBad nx last m ∧ mailsOk nx m.uid l = true := by
  rw [mailsOk]
  by_cases h : mailBad nx last m
  · rw [if_pos h]; exact ⟨fun h2 => absurd h2 (by decide), fun h2 => absurd h h2.1⟩
  · rw [if_neg h]; exact ⟨fun h2 => ⟨h, h2⟩, fun h2 => h2.2⟩
theorem not_bad {nx last : Int} {m : AMail} : ¬ mailBad nx last m ↔ last < m.uid ∧ m.uid < nx ∧ 0 ≤ m.flags ∧ m.flags ≤ 31 ∧ m.text.size ≤ 2000 := by
  unfold mailBad
  constructor
  · intro h
    refine ⟨?_, ?_, ?_, ?_, ?_⟩
    · exact Int.lt_of_not_ge fun h2 => h (.inl h2)
    · exact Int.lt_of_not_ge fun h2 => h (.inr (.inl h2))
    · exact Int.le_of_not_gt fun h2 => h (.inr (.inr (.inl h2)))
    · exact Int.le_of_not_gt fun h2 => h (.inr (.inr (.inr (.inl h2))))
    · exact Nat.le_of_not_gt fun h2 => h (.inr (.inr (.inr (.inr h2))))
  · rintro ⟨h1, h2, h3, h4, h5⟩ h
    rcases h with h | h | h | h | h <;> omega
theorem mails_snoc {nx fl : Int} {tx : ByteArray} (h3 : 0 ≤ fl) (h4 : fl ≤ 31) (h5 : tx.size ≤ 2000) : ∀ (l : List AMail) (last : Int), last < nx → mailsOk nx last l = true → mailsOk (nx + 1) last (l ++ [⟨nx, fl, tx⟩]) = true
  | [], last, hl, _ => by
    rw [List.nil_append, mails_cons, not_bad]
    exact ⟨⟨hl, by show nx < nx + 1; omega, h3, h4, h5⟩, rfl⟩
  | m :: l, last, hl, h => by
    rw [mails_cons, not_bad] at h
    rw [List.cons_append, mails_cons, not_bad]
    obtain ⟨⟨a1, a2, a3, a4, a5⟩, h⟩ := h
    exact ⟨⟨a1, by omega, a3, a4, a5⟩, mails_snoc h3 h4 h5 l m.uid a2 h⟩
theorem mails_filter {nx : Int} {p : AMail → Bool} : ∀ (l : List AMail) (last last' : Int), last' ≤ last → mailsOk nx last l = true → mailsOk nx last' (l.filter p) = true
  | [], _, _, _, _ => rfl
  | m :: l, last, last', hl, h => by
    rw [mails_cons, not_bad] at h
    obtain ⟨⟨a1, a2, a3, a4, a5⟩, h⟩ := h
    by_cases hp : p m = true
    · rw [List.filter_cons_of_pos hp, mails_cons, not_bad]
      exact ⟨⟨by omega, a2, a3, a4, a5⟩, mails_filter l m.uid m.uid (Int.le_refl _) h⟩
    · rw [List.filter_cons_of_neg hp]
      exact mails_filter l m.uid last' (by omega) h
theorem mails_flags {nx f : Int} (h0 : 0 ≤ f) (h1 : f ≤ 31) : ∀ (l : List AMail) (last : Int) (k : Nat), mailsOk nx last l = true → mailsOk nx last (flagsAt l k f) = true
  | [], _, _, _ => rfl
  | m :: l, last, 0, h => by
    rw [mails_cons, not_bad] at h
    obtain ⟨⟨a1, a2, a3, a4, a5⟩, h⟩ := h
    show mailsOk nx last (⟨m.uid, f, m.text⟩ :: l) = true
    rw [mails_cons, not_bad]
    exact ⟨⟨a1, a2, h0, h1, a5⟩, h⟩
  | m :: l, last, k + 1, h => by
    rw [mails_cons] at h
    have ih := mails_flags h0 h1 l m.uid k h.2
    unfold flagsAt at ih ⊢
    rw [List.getElem?_cons_succ]
    cases hk : l[k]? with
    | none => exact mails_cons.2 h
    | some z =>
      rw [hk] at ih
      show mailsOk nx last ((m :: l).set (k + 1) _) = true
      rw [List.set_cons_succ, mails_cons]
      exact ⟨h.1, ih⟩
theorem mails_mem {nx : Int} : ∀ (l : List AMail) (last : Int), mailsOk nx last l = true → ∀ m ∈ l, last < m.uid ∧ m.uid < nx ∧ 0 ≤ m.flags ∧ m.flags ≤ 31 ∧ m.text.size ≤ 2000
  | [], _, _, _, hm => by cases hm
  | m :: l, last, h, z, hz => by
    rw [mails_cons, not_bad] at h
    obtain ⟨⟨a1, a2, a3, a4, a5⟩, h⟩ := h
    rcases List.mem_cons.1 hz with rfl | hz
    · exact ⟨a1, a2, a3, a4, a5⟩
    · obtain ⟨b1, b2⟩ := mails_mem l m.uid h z hz
      exact ⟨by omega, b2⟩
theorem flagsAt_length (l : List AMail) (k : Nat) (f : Int) : (flagsAt l k f).length = l.length := by
  unfold flagsAt; split <;> simp
theorem good_add {b : ABox} {fl : Int} {tx : ByteArray} (h : GoodB b) (h1 : ¬ 30 ≤ b.2.2.length) (h2 : ¬ 1048576 < b.2.1) (h3 : 0 ≤ fl) (h4 : fl ≤ 31) (h5 : tx.size ≤ 2000) : GoodB (b.1, b.2.1 + 1, b.2.2 ++ [⟨b.2.1, fl, tx⟩]) := by
  obtain ⟨a1, a2, a3, a4, a5⟩ := h
  refine ⟨a1, by show 1 ≤ b.2.1 + 1; omega, by show b.2.1 + 1 ≤ 1048577; omega, by show (b.2.2 ++ [_]).length ≤ 30; simp; omega, ?_⟩
  exact mails_snoc h3 h4 h5 b.2.2 0 (by omega) a5
theorem inv_set {bs : List ABox} {i : Nat} {b : ABox} (h : ∀ b ∈ bs, GoodB b) (hb : GoodB b) : ∀ z ∈ bs.set i b, GoodB z := fun z hz => by
  rcases List.mem_or_eq_of_mem_set hz with h1 | rfl
  · exact h z h1
  · exact hb
theorem inv_addV {bs : List ABox} {i : Nat} {fl : Int} {tx : ByteArray} (h : ∀ b ∈ bs, GoodB b) (h3 : 0 ≤ fl) (h4 : fl ≤ 31) (h5 : tx.size ≤ 2000) : (addV bs i fl tx).2.length = bs.length ∧ ∀ b ∈ (addV bs i fl tx).2, GoodB b := by
  unfold addV
  split
  · exact ⟨rfl, h⟩
  · rename_i b hb
    split
    · exact ⟨rfl, h⟩
    · rename_i hn
      exact ⟨List.length_set, inv_set h (good_add (h b (List.mem_of_getElem? hb)) (fun h1 => hn (.inl h1)) (fun h1 => hn (.inr (.inl h1))) h3 h4 h5)⟩
theorem inv_put {bs : List ABox} {i : Nat} {l : List AMail} (h : ∀ b ∈ bs, GoodB b) (hl : ∀ b, bs[i]? = some b → l.length ≤ 30 ∧ mailsOk b.2.1 0 l = true) : (putMails bs i l).length = bs.length ∧ ∀ b ∈ putMails bs i l, GoodB b := by
  unfold putMails
  split
  · exact ⟨rfl, h⟩
  · rename_i b hb
    obtain ⟨a1, a2, a3, a4, a5⟩ := h b (List.mem_of_getElem? hb)
    exact ⟨List.length_set, inv_set h ⟨a1, a2, a3, (hl b hb).1, (hl b hb).2⟩⟩
theorem inv_mailV {bs : List ABox} {i : Nat} {x : AEntry} (h : ∀ b ∈ bs, GoodB b) (h3 : 0 ≤ x.flags) (h4 : x.flags ≤ 31) (h5 : x.text.size ≤ 2000) : (mailV bs i x).2.length = bs.length ∧ ∀ b ∈ (mailV bs i x).2, GoodB b := by
  have hat : ∀ b, bs[i]? = some b → mailsAt bs i = b.2.2 := fun b hb => by unfold mailsAt; rw [hb]
  unfold mailV
  split
  · exact inv_addV h h3 h4 h5
  · split
    · refine inv_put h fun b hb => ?_
      obtain ⟨a1, a2, a3, a4, a5⟩ := h b (List.mem_of_getElem? hb)
      rw [hat b hb]
      exact ⟨Nat.le_trans (List.length_filter_le _ _) a4, mails_filter _ _ _ (Int.le_refl _) a5⟩
    · split
      · exact ⟨rfl, h⟩
      · split
        · refine inv_put h fun b hb => ?_
          obtain ⟨a1, a2, a3, a4, a5⟩ := h b (List.mem_of_getElem? hb)
          rw [hat b hb]
          exact ⟨by rw [flagsAt_length]; exact a4, mails_flags h3 h4 _ _ _ a5⟩
        · unfold copyV
          split
          · exact ⟨rfl, h⟩
          · split
            · exact ⟨rfl, h⟩
            · rename_i m hm
              have hm2 : m ∈ mailsAt bs i := List.mem_of_getElem? hm
              cases hb : bs[i]? with
              | none => unfold mailsAt at hm2; rw [hb] at hm2; cases hm2
              | some b =>
                rw [hat b hb] at hm2
                obtain ⟨a1, a2, a3, a4, a5⟩ := h b (List.mem_of_getElem? hb)
                obtain ⟨c1, c2, c3, c4, c5⟩ := mails_mem _ _ a5 m hm2
                exact inv_addV h c3 c4 c5
theorem ef_ok {x : AEntry} (h : entryFault x = 0) : 1 ≤ x.kind ∧ x.kind ≤ 6 ∧ 0 ≤ x.flags ∧ x.flags ≤ 31 ∧ x.text.size ≤ 2000 ∧ (x.kind ≠ 6 → x.box.size ≤ 12) := by
  by_cases h1 : x.kind < 1 ∨ 6 < x.kind
  · rw [ef_kind h1] at h; cases h
  · cases h2 : eqbAEntry x (bareE x) with
    | false => rw [ef_form h1 h2] at h; cases h
    | true =>
      by_cases h3 : x.flags < 0 ∨ 31 < x.flags ∨ x.uid < 0 ∨ 1048576 < x.uid
      · rw [ef_range h1 h2 h3] at h; cases h
      · by_cases h4 : 2000 < x.text.size
        · rw [ef_size h1 h2 h3 h4] at h; cases h
        · refine ⟨by omega, by omega, by omega, by omega, by omega, fun h6 => ?_⟩
          rw [ef_tail h1 h2 h3 h4, if_neg h6] at h
          have hn : nameFault x.box = 0 := by
            unfold nameTail at h
            by_cases hn : nameFault x.box = 0
            · exact hn
            · exfalso
              first
                | (rw [if_neg hn] at h; exact hn h)
                | (rw [if_pos hn] at h; exact hn h)
                | (split at h <;> first | exact hn h | (rename_i hh; exact hn hh) | simp_all)
          by_cases hs : x.box.size < 1 ∨ 12 < x.box.size
          · rw [nf_one hs] at hn; cases hn
          · omega
theorem inv_ent {bs : List ABox} {es : List AEntry} {x : AEntry} (h : InvS bs es) (hx : entryFault x = 0) : InvS (entV bs es x).2.1 (entV bs es x).2.2 := by
  obtain ⟨i1, i2, i3⟩ := h
  obtain ⟨x1, x2, x3, x4, x5, x6⟩ := ef_ok hx
  unfold entV
  split
  · split
    · exact ⟨i1, i2, i3⟩
    · exact ⟨i1, by show (es ++ [x]).length ≤ 20; simp; omega, i3⟩
  · rename_i h6
    split
    · split
      · exact ⟨i1, i2, i3⟩
      · split
        · exact ⟨i1, i2, i3⟩
        · refine ⟨by show (bs ++ [_]).length ≤ 5; simp; omega, i2, fun b hb => ?_⟩
          rcases List.mem_append.1 hb with hb | hb
          · exact i3 b hb
          · obtain rfl := List.mem_singleton.1 hb
            have := x6 h6
            exact ⟨by show x.box.size ≤ 1048576; omega, by show (1 : Int) ≤ 1; omega, by show (1 : Int) ≤ 1048577; omega, by simp, rfl⟩
    · split
      · exact ⟨i1, i2, i3⟩
      · obtain ⟨l1, l2⟩ := inv_mailV (i := (findG x.box bs 0).toNat) i3 x3 x4 x5
        exact ⟨by show (mailV bs _ x).2.length ≤ 5; omega, i2, l2⟩
theorem boxes_all {bs : List ABox} : ∀ (n k : Nat), bs.length - k = n → boxesFrom bs k = true → ∀ j (h : j < bs.length), k ≤ j → boxOk bs[j] = true := by
  intro n
  induction n with
  | zero => intro k hk _ j hj hkj; omega
  | succ n ih =>
    intro k hk h j hj hkj
    have hlt : k < bs.length := by omega
    rw [boxesFrom, dif_pos hlt] at h
    by_cases hb : boxOk bs[k] = true ∧ findG bs[k].1 (bs.take k) 0 < 0
    · rw [if_pos hb] at h
      rcases Nat.eq_or_lt_of_le hkj with rfl | hkj
      · exact hb.1
      · exact ih (k + 1) (by omega) h j hj hkj
    · rw [if_neg hb] at h; cases h
theorem inv_of_ok {bs : List ABox} {es : List AEntry} (hs : okSt bs es) (h : stFault bs es = 0) : InvS bs es := by
  unfold stFault at h
  by_cases h1 : 5 < bs.length ∨ 20 < es.length
  · rw [if_pos h1] at h; cases h
  · rw [if_neg h1] at h
    refine ⟨by omega, by omega, fun b hb => ?_⟩
    obtain ⟨j, hj, rfl⟩ := List.mem_iff_getElem.1 hb
    have hbf : boxesFrom bs 0 = true := by
      unfold stTail at h
      by_cases h2 : boxesFrom bs 0 = true
      · exact h2
      · rw [if_neg h2] at h; cases h
    have hbo := boxes_all _ 0 rfl hbf j hj (Nat.zero_le _)
    have hsz := hs.1 _ hb
    unfold boxOk at hbo
    split at hbo
    · cases hbo
    · rename_i h3
      exact ⟨hsz, by have : ¬ bs[j].2.1 < 1 := fun h4 => h3 (.inr (.inl h4)); omega, by have : ¬ 1048577 < bs[j].2.1 := fun h4 => h3 (.inr (.inr (.inl h4))); omega,
        by have : ¬ 30 < bs[j].2.2.length := fun h4 => h3 (.inr (.inr (.inr h4))); omega, hbo⟩
theorem inv_size {bs : List ABox} (h : ∀ b ∈ bs, GoodB b) : stSize bs ≤ bs.length * 60000 := by
  unfold stSize
  induction bs with
  | nil => simp
  | cons b bs ih =>
    have h1 := ih (fun z hz => h z (List.mem_cons_of_mem _ hz))
    obtain ⟨a1, a2, a3, a4, a5⟩ := h b (List.mem_cons_self ..)
    have h2 := mails_sz a5
    rw [List.map_cons, List.sum_cons, List.length_cons, Nat.add_mul]
    omega
theorem findU_snoc (u : Int) (m : AMail) : ∀ (l : List AMail) (i : Int), 0 ≤ i → findU u (l ++ [m]) i = if 0 ≤ findU u l i then findU u l i else if m.uid = u then i + l.length else -1
  | [], i, h => by
    by_cases hm : m.uid = u
    · simp [findU, hm]
    · simp [findU, hm]
  | z :: l, i, h => by
    rw [List.cons_append, findU, findU]
    by_cases hz : z.uid = u
    · rw [if_pos hz, if_pos hz, if_pos h]
    · rw [if_neg hz, if_neg hz, findU_snoc u m l (i + 1) (by omega)]
      split
      · rfl
      · split
        · simp; omega
        · rfl
theorem findU_none {u : Int} : ∀ (l : List AMail) (i : Int), (∀ m ∈ l, m.uid ≠ u) → findU u l i = -1
  | [], _, _ => rfl
  | z :: l, i, h => by
    rw [findU, if_neg (h z (List.mem_cons_self ..))]
    exact findU_none l _ fun m hm => h m (List.mem_cons_of_mem _ hm)
theorem findU_lt {u : Int} : ∀ (l : List AMail) (i : Int), findU u l i = -1 ∨ i ≤ findU u l i ∧ findU u l i < i + l.length
  | [], _ => .inl rfl
  | z :: l, i => by
    rw [findU]
    by_cases hz : z.uid = u
    · rw [if_pos hz]; right; simp; omega
    · rw [if_neg hz]
      rcases findU_lt (u := u) l (i + 1) with h | h
      · exact .inl h
      · right; simp; omega
theorem findG_lt {nm : ByteArray} : ∀ (l : List ABox) (i : Int), findG nm l i = -1 ∨ i ≤ findG nm l i ∧ findG nm l i < i + l.length
  | [], _ => .inl rfl
  | z :: l, i => by
    rw [findG]
    by_cases hz : z.1 = nm
    · rw [if_pos hz]; right; simp; omega
    · rw [if_neg hz]
      rcases findG_lt (nm := nm) l (i + 1) with h | h
      · exact .inl h
      · right; simp; omega
/-- Uids rise: those ahead of one are lesser. -/
theorem mails_rise {nx : Int} : ∀ (l : List AMail) (last : Int) (k : Nat) (h : k < l.length), mailsOk nx last l = true → ∀ m ∈ l.take k, m.uid < l[k].uid
  | [], _, _, h, _, _, _ => by cases h
  | z :: l, last, 0, _, _, m, hm => by cases hm
  | z :: l, last, k + 1, h, ho, m, hm => by
    rw [mails_cons] at ho
    rw [List.take_succ_cons] at hm
    have hk : k < l.length := by simpa using h
    show m.uid < l[k].uid
    rcases List.mem_cons.1 hm with rfl | hm
    · exact (mails_mem l _ ho.2 l[k] (List.getElem_mem hk)).1
    · exact mails_rise l _ k hk ho.2 m hm
/-- The reference's search, a step: the last one is the first. -/
theorem findU_step {nx u : Int} {l : List AMail} {k : Nat} (h : k < l.length) (ho : mailsOk nx 0 l = true) : findU u (l.take (k + 1)) 0 = if l[k].uid = u then (k : Int) else findU u (l.take k) 0 := by
  rw [List.take_succ_eq_append_getElem h, findU_snoc u _ _ 0 (Int.le_refl _)]
  have hl : (l.take k).length = k := by rw [List.length_take]; omega
  by_cases hu : l[k].uid = u
  · have hn : findU u (l.take k) 0 = -1 := findU_none _ _ fun m hm he => by
      have := mails_rise l 0 k h ho m hm
      omega
    rw [hn, if_neg (by decide), if_pos hu, if_pos hu, hl]; simp
  · rw [if_neg hu, if_neg hu]
    split
    · rfl
    · rename_i h2
      rcases findU_lt (u := u) (l.take k) 0 with h3 | h3
      · exact h3.symm
      · exact absurd h3.1 h2
theorem filter_step (p : AMail → Bool) {l : List AMail} {k : Nat} (h : k < l.length) : (l.take (k + 1)).filter p = (l.take k).filter p ++ if p l[k] = true then [l[k]] else [] := by
  rw [List.take_succ_eq_append_getElem h, List.filter_append]
  by_cases hp : p l[k] = true
  · rw [if_pos hp, List.filter_cons_of_pos hp]; rfl
  · rw [if_neg hp, List.filter_cons_of_neg hp]; rfl
end Go.Proofs.YtijdghplfhfpaaaDoor.H

/- Rows of bytes that the call owns; blocks of another type beside them. -/
namespace Go.Proofs.YtijdghplfhfpaaaDoor.H
open Go.RowKit Go.Proofs.YtijdghplfhfpaaaDoorW.PrintWords Go.Proofs.YtijdghplfhfpaaaDoorW.PrintLast Go.Proofs.YtijdghplfhfpaaaDoor.U
set_option linter.unusedVariables false
set_option linter.unusedSimpArgs false
/-- A block known whole, its type besides. -/
def BlkT (w : World) (b t : Nat) (l : List Value) : Prop := Blk w b l ∧ ∃ cs, w.heap[b]? = some (.cells cs t (0, 0))
theorem BlkT.made (w : World) (a : Array Value) (t : Nat) : BlkT (w.alloc (.cells a t)) w.heap.size t a.toList := ⟨Blk.made w a t, a, by show (w.heap.push _)[w.heap.size]? = _; rw [Array.getElem?_push_size]⟩
theorem BlkT.made_at {w : World} (a : Array Value) (t n : Nat) (h : w.heap.size = n) : BlkT (w.alloc (.cells a t)) n t a.toList := by subst h; exact BlkT.made w a t
theorem BlkT.below {w w1 : World} {b t B : Nat} {l : List Value} (h : BlkT w b t l) (hb : Below B w w1) (hB : b < B) : BlkT w1 b t l :=
  ⟨h.1.below hb hB, by obtain ⟨cs, hc⟩ := h.2; exact ⟨cs, (hb.block b hB).trans hc⟩⟩
theorem BlkT.alloc {w : World} {b t : Nat} {l : List Value} (h : BlkT w b t l) (o : Obj) : BlkT (w.alloc o) b t l := h.below (Below.alloc (Below.refl _ _) (Nat.le_refl _) o) h.1.1
theorem BlkT.row {α : Type} {d : Kd α} {e base : Nat} {ok : Nat → Prop} {w w1 : World} {v : Value} {xs : List α} {b t : Nat} {l : List Value} (h : BlkT w b t l) (hR : d.R e w base ok v xs) (hg : w.grownBy w1 v.ownBlock) (ht : e ≠ t) : BlkT w1 b t l := by
  obtain ⟨cs, hc⟩ := h.2
  have hne := Kd.R_ne hR hc ht
  exact ⟨h.1.grown hg hne, cs, (hg.block b h.1.1 hne).trans hc⟩
/-- Blocks of another type than e are as they were. -/
def KeepT (e : Nat) (w w1 : World) : Prop := w.heap.size ≤ w1.heap.size ∧ ∀ b t l, e ≠ t → BlkT w b t l → BlkT w1 b t l
theorem KeepT.refl (e : Nat) (w : World) : KeepT e w w := ⟨Nat.le_refl _, fun _ _ _ _ h => h⟩
theorem KeepT.trans {e : Nat} {w w1 w2 : World} (h : KeepT e w w1) (h2 : KeepT e w1 w2) : KeepT e w w2 := ⟨Nat.le_trans h.1 h2.1, fun b t l ht hb => h2.2 b t l ht (h.2 b t l ht hb)⟩
theorem KeepT.alloc (e : Nat) (w : World) (o : Obj) : KeepT e w (w.alloc o) := ⟨by simp, fun _ _ _ _ h => h.alloc o⟩
theorem KeepT.below {e : Nat} {w w1 : World} (h : Below w.heap.size w w1) : KeepT e w w1 := ⟨h.size, fun _ _ _ _ hb => hb.below h hb.1.1⟩
theorem KeepT.row {α : Type} {d : Kd α} {e base : Nat} {ok : Nat → Prop} {w w1 : World} {v : Value} {xs : List α} (hR : d.R e w base ok v xs) (hg : w.grownBy w1 v.ownBlock) : KeepT e w w1 := ⟨hg.size, fun _ _ _ ht hb => hb.row hR hg ht⟩
section
variable {P : Program} {ops : Array Oper} {rest : List Oper} {o : Oper} {a : Act} {Q : Exit → Act → World → Prop}
end
end Go.Proofs.YtijdghplfhfpaaaDoor.H
