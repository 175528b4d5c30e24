/- Lists of addresses: the reader's small methods: the walks. -/
import Derived.Test.YtijdghplfhfpaaaDoorListP
import Derived.Test.YtijdghplfhfpaaaDoorWhoC
import Derived.Test.YtijdghplfhfpaaaDoorBlk
import Derived.WalkLawsBesides
namespace Go.Proofs.YtijdghplfhfpaaaDoor.H
open Go.RowKit Go.Proofs.YtijdghplfhfpaaaDoorW.PrintWords Go.Proofs.YtijdghplfhfpaaaDoorW.PrintLast Go.Proofs.YtijdghplfhfpaaaDoorW.PrintMore Go.Proofs.YtijdghplfhfpaaaDoor.U
set_option linter.unusedVariables false
set_option linter.unusedSimpArgs false
theorem place_next {w : World} {b k n : Nat} {s : ByteArray} (h : Cur w b s k) : placeOf ((w.drewN n).setCell ⟨b, 1, none⟩ (.int .i64 ((k : Int) + 1))) b = k + 1 := by
  have := (Cur.set (Cur.drawN h n) (k + 1)).place
  simpa using this
set_option maxHeartbeats 1000000 in
set_option maxRecDepth 100000 in
theorem rskip_calls (b : Nat) (s : ByteArray) (i : Nat) (w : World) (hc : Cur w b s i) (hi : i ≤ s.size) (hs : s.size ≤ 9223372036854775806) :
    Calls Tryd.prog 147 #[.pointer (some ⟨b, 0, none⟩)] w fun e w' => e = .returned (.tuple #[]) ∧ Cur w' b s (spanEnd blankB s i) ∧ w.grownBy w' (some b) := by
  obtain ⟨hle, hse⟩ := spanEnd_le blankB s _ i rfl hi
  generalize hE : spanEnd blankB s i = E at *
  go_enter Tryd.func147, Tryd.ntmps147
  have hp := hc.place
  obtain ⟨c0, c1, f0, f1, lt⟩ := hc
  go_wp2
  go_loopw [] (fun wr => ∃ k : Nat, k ≤ s.size ∧ Cur wr b s k ∧ spanEnd blankB s k = E ∧ w.grownBy wr (some b)) (fun wr => s.size - placeOf wr b)
  case atStart => exact ⟨i, hi, ⟨c0, c1, f0, f1, lt⟩, hE, (by repeat (first | exact World.grownBy.refl _ _ | apply grown_drawN | apply grown_drew | apply grown_set | exact hB))⟩
  case round =>
    clear c0 c1 f0 f1 lt hE
    obtain ⟨k, hk, hc, hE, hB⟩ := hrel
    have hp2 := hc.place
    by_cases hlt : k < s.size
    · have b0 := (s[k]).toNat_lt
      have i0 : (0 : Int) ≤ (k : Int) := by omega
      have i1 : (k : Int) < (s.size : Int) := by omega
      have hy := spanEnd_yes blankB hlt
      have hn := spanEnd_no blankB hlt
      obtain ⟨c0, c1, f0, f1, lt⟩ := hc
      rcases (by omega : s[k].toNat = 32 ∨ s[k].toNat = 9 ∨ (s[k].toNat ≠ 32 ∧ s[k].toNat ≠ 9)) with h1 | h1 | ⟨h1, h2⟩
      · have hq := Lib.hid ((hy (by simp [blankB, h1])).symm.trans hE)
        have e1 : ((s[k].toNat : Int) == 32) = true := by rw [beq_iff_eq]; omega
        clear hn hy hE h1
        go_wp2
        go_quiet (fail)
        go_wp2
        go_roundw
        case rel => exact ⟨k + 1, by omega, Cur.set (Cur.drawN ⟨c0, c1, f0, f1, lt⟩ _) (k + 1), hq.out, (by repeat (first | exact World.grownBy.refl _ _ | apply grown_drawN | apply grown_drew | apply grown_set | exact hB))⟩
        case measure => rw [hp2, place_next (Cur.mk c0 c1 f0 f1 lt)]; omega
      · have hq := Lib.hid ((hy (by simp [blankB, h1])).symm.trans hE)
        have e1 : ((s[k].toNat : Int) == 32) = false := by rw [beq_eq_false_iff_ne]; omega
        have e2 : ((s[k].toNat : Int) == 9) = true := by rw [beq_iff_eq]; omega
        clear hn hy hE h1
        go_wp2
        go_quiet (fail)
        go_wp2
        go_roundw
        case rel => exact ⟨k + 1, by omega, Cur.set (Cur.drawN ⟨c0, c1, f0, f1, lt⟩ _) (k + 1), hq.out, (by repeat (first | exact World.grownBy.refl _ _ | apply grown_drawN | apply grown_drew | apply grown_set | exact hB))⟩
        case measure => rw [hp2, place_next (Cur.mk c0 c1 f0 f1 lt)]; omega
      · obtain rfl : k = E := (hn (by simp [blankB]; omega)).symm.trans hE
        have e1 : ((s[k].toNat : Int) == 32) = false := by rw [beq_eq_false_iff_ne]; omega
        have e2 : ((s[k].toNat : Int) == 9) = false := by rw [beq_eq_false_iff_ne]; omega
        clear hn hy hE h1 h2
        go_wp2
        go_quiet (fail)
        go_wp2
        go_end0
        exact ⟨rfl, (by repeat (first | exact (Cur.mk c0 c1 f0 f1 lt) | apply Cur.drawN | apply Cur.drew | apply Cur.set)), (by repeat (first | exact World.grownBy.refl _ _ | apply grown_drawN | apply grown_drew | apply grown_set | exact hB))⟩
    · obtain rfl : k = s.size := by omega
      obtain rfl : s.size = E := by rw [← hE, spanEnd_end _ (by omega)]
      obtain ⟨c0, c1, f0, f1, lt⟩ := hc
      clear hE
      go_wp2
      go_quiet (fail)
      go_wp2
      go_end0
      exact ⟨rfl, (by repeat (first | exact (Cur.mk c0 c1 f0 f1 lt) | apply Cur.drawN | apply Cur.drew | apply Cur.set)), (by repeat (first | exact World.grownBy.refl _ _ | apply grown_drawN | apply grown_drew | apply grown_set | exact hB))⟩
set_option maxHeartbeats 1000000 in
set_option maxRecDepth 100000 in
theorem rnext_calls (b : Nat) (s : ByteArray) (i : Nat) (w : World) (hc : Cur w b s i) (hi : i ≤ s.size) (hs : s.size ≤ 9223372036854775806) :
    Calls Tryd.prog 149 #[.pointer (some ⟨b, 0, none⟩)] w fun e w' => e = .returned (.int .u8 (nx s i)) ∧ ∃ n, w' = w.drewN n := by
  obtain ⟨c0, c1, f0, f1, lt⟩ := hc
  by_cases h : i < s.size
  · rw [nx_in h]
    have i0 : (0 : Int) ≤ (i : Int) := by omega
    have i1 : (i : Int) < (s.size : Int) := by omega
    have e1 : ((i : Int) == s.size) = false := by rw [beq_eq_false_iff_ne]; omega
    go_enter Tryd.func149, Tryd.ntmps149
    go_wp2
    go_quiet (fail)
    go_wp2
    go_quiet (fail)
    go_wp2
    go_ret
    exact ⟨rfl, (by first | exact ⟨0, rfl⟩ | exact ⟨_, rfl⟩ | (simp only [World.drewN_drewN]; exact ⟨_, rfl⟩))⟩
  · rw [nx_out h]
    obtain rfl : i = s.size := by omega
    go_enter Tryd.func149, Tryd.ntmps149
    go_wp2
    go_quiet (fail)
    go_wp2
    go_ret
    exact ⟨rfl, (by first | exact ⟨0, rfl⟩ | exact ⟨_, rfl⟩ | (simp only [World.drewN_drewN]; exact ⟨_, rfl⟩))⟩
theorem rnext_cur (b : Nat) (s : ByteArray) (i : Nat) (w : World) (hc : Cur w b s i) (hi : i ≤ s.size) (hs : s.size ≤ 9223372036854775806) :
    Calls Tryd.prog 149 #[.pointer (some ⟨b, 0, none⟩)] w fun e w' => e = .returned (.int .u8 (nx s i)) ∧ Cur w' b s i ∧ w.grownBy w' (some b) :=
  (rnext_calls b s i w hc hi hs).mono fun e w' ⟨he, n, hw⟩ => ⟨he, by subst hw; exact hc.drawN n, by subst hw; exact grown_drawN (World.grownBy.refl _ _) n⟩
theorem must_yes (w : World) : Calls Tryd.prog 148 #[.bool true] w fun e w' => e = .returned (.tuple #[]) ∧ w = w' := by
  go_enter Tryd.func148, Tryd.ntmps148
  go_wp2
  go_end0
  exact ⟨rfl, rfl⟩
/-- The panic of who.must. -/
def mustP : List PanicEntry := [{ v := .iface 26 (.int .i64 3), recovered := false }]
theorem must_no (w : World) : Calls Tryd.prog 148 #[.bool false] w fun e w' => e = .panicked mustP ∧ w = w' := by
  go_enter Tryd.func148, Tryd.ntmps148
  go_wp2
  exact ⟨rfl, rfl, rfl⟩
set_option maxHeartbeats 1000000 in
set_option maxRecDepth 100000 in
theorem rrun_calls (b : Nat) (s : ByteArray) (i : Nat) (w : World) (hc : Cur w b s i) (hi : i ≤ s.size) (hs : s.size ≤ 9223372036854775806) :
    Calls Tryd.prog 187 #[.pointer (some ⟨b, 0, none⟩)] w fun e w' => e = .returned (.string (s.extract i (spanEnd runB s i))) ∧ Cur w' b s (spanEnd runB s i) ∧ w.grownBy w' (some b) := by
  obtain ⟨hle, hse⟩ := spanEnd_le runB s _ i rfl hi
  generalize hE : spanEnd runB s i = E at *
  go_enter Tryd.func187, Tryd.ntmps187
  have hp := hc.place
  obtain ⟨c0, c1, f0, f1, lt⟩ := hc
  go_wp2
  go_loopw [] (fun wr => ∃ k : Nat, k ≤ s.size ∧ Cur wr b s k ∧ spanEnd runB s k = E ∧ w.grownBy wr (some b)) (fun wr => s.size - placeOf wr b)
  case atStart => exact ⟨i, hi, ⟨c0, c1, f0, f1, lt⟩, hE, (by repeat (first | exact World.grownBy.refl _ _ | apply grown_drawN | apply grown_drew | apply grown_set | exact hB))⟩
  case round =>
    clear c0 c1 f0 f1 lt hE
    obtain ⟨k, hk, hc, hE, hB⟩ := hrel
    have hp2 := hc.place
    by_cases hlt : k < s.size
    · have b0 := (s[k]).toNat_lt
      have i0 : (0 : Int) ≤ (k : Int) := by omega
      have i1 : (k : Int) < (s.size : Int) := by omega
      have hy := spanEnd_yes runB hlt
      have hn := spanEnd_no runB hlt
      have hl := fun w => atom_calls s[k].toNat w (by omega) (by omega)
      unfold runB at hy hn
      generalize atomB s[k].toNat = at_ at hl hy hn
      have hl := Lib.hid hl
      obtain ⟨c0, c1, f0, f1, lt⟩ := hc
      by_cases h1 : at_ = true ∨ s[k].toNat = 46
      · have hq := Lib.hid ((hy (by rcases h1 with h1 | h1 <;> simp [h1])).symm.trans hE)
        clear hn hy hE
        rcases (by cases at_ <;> simp_all : at_ = true ∨ (at_ = false ∧ s[k].toNat = 46)) with rfl | ⟨rfl, h2⟩
        · clear h1
          go_wp2
          go_quiet ((go_at_call 192; exact quiet_eq (hl.out _)))
          go_wp2
          go_roundw
          case rel => exact ⟨k + 1, by omega, Cur.set (Cur.drawN ⟨c0, c1, f0, f1, lt⟩ _) (k + 1), hq.out, (by repeat (first | exact World.grownBy.refl _ _ | apply grown_drawN | apply grown_drew | apply grown_set | exact hB))⟩
          case measure => rw [hp2, place_next (Cur.mk c0 c1 f0 f1 lt)]; omega
        · have e1 : ((s[k].toNat : Int) == 46) = true := by rw [beq_iff_eq]; omega
          clear h1 h2
          go_wp2
          go_quiet ((go_at_call 192; exact quiet_eq (hl.out _)))
          go_wp2
          go_roundw
          case rel => exact ⟨k + 1, by omega, Cur.set (Cur.drawN ⟨c0, c1, f0, f1, lt⟩ _) (k + 1), hq.out, (by repeat (first | exact World.grownBy.refl _ _ | apply grown_drawN | apply grown_drew | apply grown_set | exact hB))⟩
          case measure => rw [hp2, place_next (Cur.mk c0 c1 f0 f1 lt)]; omega
      · obtain ⟨rfl, h2⟩ : at_ = false ∧ s[k].toNat ≠ 46 := ⟨by cases at_ <;> simp_all, fun h => h1 (.inr h)⟩
        obtain rfl : k = E := (hn (by simp; omega)).symm.trans hE
        have e1 : ((s[k].toNat : Int) == 46) = false := by rw [beq_eq_false_iff_ne]; omega
        have i2 : (0 : Int) ≤ (i : Int) := by omega
        have i3 : (i : Int) ≤ (k : Int) := by omega
        have i4 : (k : Int) ≤ (s.size : Int) := by omega
        clear hn hy hE h1 h2
        go_wp2
        go_quiet ((go_at_call 192; exact quiet_eq (hl.out _)))
        go_wp2
        go_quiet (fail)
        go_wp2
        go_ret
        exact ⟨rfl, (by repeat (first | exact (Cur.mk c0 c1 f0 f1 lt) | apply Cur.drawN | apply Cur.drew | apply Cur.set)), (by repeat (first | exact World.grownBy.refl _ _ | apply grown_drawN | apply grown_drew | apply grown_set | exact hB))⟩
    · obtain rfl : k = s.size := by omega
      obtain rfl : s.size = E := by rw [← hE, spanEnd_end _ (by omega)]
      obtain ⟨c0, c1, f0, f1, lt⟩ := hc
      clear hE
      have i2 : (0 : Int) ≤ (i : Int) := by omega
      have i3 : (i : Int) ≤ (s.size : Int) := by omega
      go_wp2
      go_quiet (fail)
      go_wp2
      go_quiet (fail)
      go_wp2
      go_ret
      exact ⟨rfl, (by repeat (first | exact (Cur.mk c0 c1 f0 f1 lt) | apply Cur.drawN | apply Cur.drew | apply Cur.set)), (by repeat (first | exact World.grownBy.refl _ _ | apply grown_drawN | apply grown_drew | apply grown_set | exact hB))⟩
/-- A method that ends at a place, or panics by who.must. -/
def PostQ (w : World) (b : Nat) (s : ByteArray) (R : Option Nat) (e : Ending) (w' : World) : Prop :=
  match R with
  | some k => e = .returned (.tuple #[]) ∧ Cur w' b s k ∧ w.grownBy w' (some b)
  | none => e = .panicked mustP ∧ w.grownBy w' (some b)
set_option maxHeartbeats 1000000 in
set_option maxRecDepth 100000 in
theorem rquoted_calls (b : Nat) (s : ByteArray) (i : Nat) (w : World) (hc : Cur w b s i) (hi : i < s.size) (hs : s.size ≤ 9223372036854775000) :
    Calls Tryd.prog 185 #[.pointer (some ⟨b, 0, none⟩)] w (PostQ w b s (qEnd s (i + 1))) := by
  generalize hR : qEnd s (i + 1) = R
  have hp := hc.place
  obtain ⟨c0, c1, f0, f1, lt⟩ := hc
  go_enter Tryd.func185, Tryd.ntmps185
  go_wp2
  go_loopw [] (fun wr => ∃ k : Nat, k ≤ s.size ∧ Cur wr b s k ∧ qEnd s k = R ∧ w.grownBy wr (some b)) (fun wr => s.size - placeOf wr b)
  case atStart => exact ⟨i + 1, hi, Cur.set ⟨c0, c1, f0, f1, lt⟩ (i + 1), hR, (by repeat (first | exact World.grownBy.refl _ _ | apply grown_drawN | apply grown_drew | apply grown_set | exact hB))⟩
  case round =>
    clear c0 c1 f0 f1 lt hR
    obtain ⟨k, hk, hc, hR, hB⟩ := hrel
    have hp2 := hc.place
    have HN := Lib.hid (fun W hc => rnext_cur b s k W hc hk (by omega))
    by_cases hlt : k < s.size
    · have b0 := (s[k]).toNat_lt
      rw [qEnd, dif_pos hlt] at hR
      rw [nx_in hlt] at HN
      have i1 : (k : Int) < (s.size : Int) := by omega
      by_cases h1 : s[k].toNat = 34
      · rw [if_pos h1] at hR
        subst hR
        have e1 : ((s[k].toNat : Int) != 34) = false := by rw [bne_eq_false_iff_eq]; omega
        clear h1
        go_wp2_with fail
        refine (HN.out _ (by repeat (first | exact hc | apply Cur.drawN | apply Cur.drew | apply Cur.set))).mono ?_
        rintro e w2 ⟨rfl, hc2, hg2⟩
        have h_ := hc2
        obtain ⟨c0, c1, f0, f1, lt⟩ := h_
        go_wp2
        go_end0
        exact ⟨rfl, Cur.set hc2 (k + 1), (by repeat (first | exact World.grownBy.refl _ _ | apply grown_drawN | apply grown_drew | apply grown_set | exact (grown_trans hB hg2)))⟩
      · rw [if_neg h1] at hR
        have e1 : ((s[k].toNat : Int) != 34) = true := by rw [bne_iff_ne]; omega
        by_cases h2 : s[k].toNat = 92
        · rw [if_pos h2] at hR
          have e2 : ((s[k].toNat : Int) == 92) = true := by rw [beq_iff_eq]; omega
          by_cases h3 : k + 1 < s.size
          · rw [if_pos h3] at hR
            have hR := Lib.hid hR
            have i2 : (k : Int) + 1 < (s.size : Int) := by omega
            clear h1 h2
            go_wp2_with fail
            refine (HN.out _ (by repeat (first | exact hc | apply Cur.drawN | apply Cur.drew | apply Cur.set))).mono ?_
            rintro e w2 ⟨rfl, hc2, hg2⟩
            have h_ := hc2
            obtain ⟨c0, c1, f0, f1, lt⟩ := h_
            go_wp2_with fail
            refine (HN.out _ (by repeat (first | exact hc2 | apply Cur.drawN | apply Cur.drew | apply Cur.set))).mono ?_
            rintro e w3 ⟨rfl, hc3, hg3⟩
            have h_ := hc3
            obtain ⟨c0, c1, f0, f1, lt⟩ := h_
            go_wp2_with fail
            go_quiet ((go_at_call 148; exact quiet_eq (must_yes _)))
            go_wp2
            have hc4 := Cur.setI (Cur.drawN (Cur.setI hc3 ((k : Int) + 1) (k + 1) (by omega)) nq) ((k : Int) + 1 + 1) (k + 2) (by omega)
            go_roundw
            case rel => exact ⟨k + 2, by omega, hc4, hR.out, (by repeat (first | exact World.grownBy.refl _ _ | apply grown_drawN | apply grown_drew | apply grown_set | exact (grown_trans hB (grown_trans hg2 hg3))))⟩
            case measure => rw [hp2, hc4.place]; omega
          · rw [if_neg h3] at hR
            subst hR
            have i2 : ¬ (k : Int) + 1 < (s.size : Int) := by omega
            clear h1 h2
            go_wp2_with fail
            refine (HN.out _ (by repeat (first | exact hc | apply Cur.drawN | apply Cur.drew | apply Cur.set))).mono ?_
            rintro e w2 ⟨rfl, hc2, hg2⟩
            have h_ := hc2
            obtain ⟨c0, c1, f0, f1, lt⟩ := h_
            go_wp2_with fail
            refine (HN.out _ (by repeat (first | exact hc2 | apply Cur.drawN | apply Cur.drew | apply Cur.set))).mono ?_
            rintro e w3 ⟨rfl, hc3, hg3⟩
            have h_ := hc3
            obtain ⟨c0, c1, f0, f1, lt⟩ := h_
            go_wp2_with fail
            have hc4 := Cur.setI hc3 ((k : Int) + 1) (k + 1) (by omega)
            refine wp_region_held_drew (S := fun w' => w'.cell? ⟨b, 0, none⟩ = some (.string s) ∧ w'.cell? ⟨b, 1, none⟩ = some (.int .i64 ((k : Int) + 1))) (by kernel_rfl) ⟨by simpa using (hc4).c0, by simpa using (hc4).c1⟩ (fun hHeld => ?_)
            refine wpAnyH_take (i := 0) (oi := { dst := some 29, op := _, type := _, pos := _, after := _, guard := _ }) (v := .pointer (some ⟨b, 0, none⟩)) rfl (by kernel_rfl) (by kernel_rfl) (by kernel_rfl) (fun _ _ _ h => h) (Or.inl ⟨by rfl, by (intro w hSw; (try dsimp only at hSw); first | (go_simp; done) | (go_simp; with_reducible rfl) | (go_simp; omega) | (go_simp; simp [*]; done))⟩) (by assumption) ?_; try simp only [Act.put, List.setIfInBounds_toArray, List.set_cons_zero, List.set_cons_succ]
            refine wpAnyH_take (i := 1) (oi := { dst := some 30, op := _, type := _, pos := _, after := _, guard := _ }) (v := .pointer (some ⟨b, 0, none⟩)) rfl (by kernel_rfl) (by kernel_rfl) (by kernel_rfl) (fun _ _ _ h => h) (Or.inl ⟨by rfl, by (intro w hSw; (try dsimp only at hSw); first | (go_simp; done) | (go_simp; with_reducible rfl) | (go_simp; omega) | (go_simp; simp [*]; done))⟩) (by assumption) ?_; try simp only [Act.put, List.setIfInBounds_toArray, List.set_cons_zero, List.set_cons_succ]
            refine wpAnyH_take (i := 2) (oi := { dst := some 31, op := _, type := _, pos := _, after := _, guard := _ }) (v := .pointer (some ⟨b, 1, none⟩)) rfl (by kernel_rfl) (by kernel_rfl) (by kernel_rfl) (fun _ _ _ h => h) (Or.inl ⟨by rfl, by (intro w hSw; (try dsimp only at hSw); first | (go_simp; done) | (go_simp; with_reducible rfl) | (go_simp; omega) | (go_simp; simp [*]; done))⟩) (by assumption) ?_; try simp only [Act.put, List.setIfInBounds_toArray, List.set_cons_zero, List.set_cons_succ]
            refine wpAnyH_take (i := 3) (oi := { dst := some 32, op := _, type := _, pos := _, after := _, guard := _ }) (v := .int .i64 ((k : Int) + 1)) rfl (by kernel_rfl) (by kernel_rfl) (by kernel_rfl) (fun _ _ _ h => h) (Or.inl ⟨by rfl, by (intro w hSw; (try dsimp only at hSw); first | (go_simp; done) | (go_simp; with_reducible rfl) | (go_simp; omega) | (go_simp; simp [*]; done))⟩) (by assumption) ?_; try simp only [Act.put, List.setIfInBounds_toArray, List.set_cons_zero, List.set_cons_succ]
            refine wpAnyH_take (i := 4) (oi := { dst := some 33, op := _, type := _, pos := _, after := _, guard := _ }) (v := .pointer (some ⟨b, 0, none⟩)) rfl (by kernel_rfl) (by kernel_rfl) (by kernel_rfl) (fun _ _ _ h => h) (Or.inl ⟨by rfl, by (intro w hSw; (try dsimp only at hSw); first | (go_simp; done) | (go_simp; with_reducible rfl) | (go_simp; omega) | (go_simp; simp [*]; done))⟩) (by assumption) ?_; try simp only [Act.put, List.setIfInBounds_toArray, List.set_cons_zero, List.set_cons_succ]
            refine wpAnyH_take (i := 5) (oi := { dst := some 34, op := _, type := _, pos := _, after := _, guard := _ }) (v := .pointer (some ⟨b, 0, none⟩)) rfl (by kernel_rfl) (by kernel_rfl) (by kernel_rfl) (fun _ _ _ h => h) (Or.inl ⟨by rfl, by (intro w hSw; (try dsimp only at hSw); first | (go_simp; done) | (go_simp; with_reducible rfl) | (go_simp; omega) | (go_simp; simp [*]; done))⟩) (by assumption) ?_; try simp only [Act.put, List.setIfInBounds_toArray, List.set_cons_zero, List.set_cons_succ]
            refine wpAnyH_take (i := 6) (oi := { dst := some 35, op := _, type := _, pos := _, after := _, guard := _ }) (v := .pointer (some ⟨b, 0, none⟩)) rfl (by kernel_rfl) (by kernel_rfl) (by kernel_rfl) (fun _ _ _ h => h) (Or.inl ⟨by rfl, by (intro w hSw; (try dsimp only at hSw); first | (go_simp; done) | (go_simp; with_reducible rfl) | (go_simp; omega) | (go_simp; simp [*]; done))⟩) (by assumption) ?_; try simp only [Act.put, List.setIfInBounds_toArray, List.set_cons_zero, List.set_cons_succ]
            refine wpAnyH_take (i := 7) (oi := { dst := some 36, op := _, type := _, pos := _, after := _, guard := _ }) (v := .string s) rfl (by kernel_rfl) (by kernel_rfl) (by kernel_rfl) (fun _ _ _ h => h) (Or.inl ⟨by rfl, by (intro w hSw; (try dsimp only at hSw); first | (go_simp; done) | (go_simp; with_reducible rfl) | (go_simp; omega) | (go_simp; simp [*]; done))⟩) (by assumption) ?_; try simp only [Act.put, List.setIfInBounds_toArray, List.set_cons_zero, List.set_cons_succ]
            refine wpAnyH_take (i := 8) (oi := { dst := some 37, op := _, type := _, pos := _, after := _, guard := _ }) (v := .int .i64 s.size) rfl (by kernel_rfl) (by kernel_rfl) (by kernel_rfl) (fun _ _ _ h => h) (Or.inl ⟨by rfl, by (intro w hSw; (try dsimp only at hSw); first | (go_simp; done) | (go_simp; with_reducible rfl) | (go_simp; omega) | (go_simp; simp [*]; done))⟩) (by assumption) ?_; try simp only [Act.put, List.setIfInBounds_toArray, List.set_cons_zero, List.set_cons_succ]
            refine wpAnyH_take (i := 9) (oi := { dst := some 38, op := _, type := _, pos := _, after := _, guard := _ }) (v := .bool false) rfl (by kernel_rfl) (by kernel_rfl) (by kernel_rfl) (fun _ _ _ h => h) (Or.inl ⟨by rfl, by (intro w hSw; (try dsimp only at hSw); first | (go_simp; done) | (go_simp; with_reducible rfl) | (go_simp; omega) | (go_simp; simp [*]; done))⟩) (by assumption) ?_; try simp only [Act.put, List.setIfInBounds_toArray, List.set_cons_zero, List.set_cons_succ]
            refine wpAnyH_ready (rs := [10]) (by kernel_rfl) (by simp) ?_
            refine AllReadyH.cons (o := { dst := some 39, op := _, type := _, pos := _, after := _, guard := _ }) rfl (fun K hK => ?_) AllReadyH.nil
            go_simp
            go_at_call 148
            refine (must_no _).mono ?_
            rintro e w5 ⟨rfl, rfl⟩
            exact ⟨rfl, rfl, (by repeat (first | exact World.grownBy.refl _ _ | apply grown_drawN | apply grown_drew | apply grown_set | exact (grown_trans hB (grown_trans hg2 hg3))))⟩
        · rw [if_neg h2] at hR
          have e2 : ((s[k].toNat : Int) == 92) = false := by rw [beq_eq_false_iff_ne]; omega
          have hR := Lib.hid hR
          clear h1 h2
          go_wp2_with fail
          refine (HN.out _ (by repeat (first | exact hc | apply Cur.drawN | apply Cur.drew | apply Cur.set))).mono ?_
          rintro e w2 ⟨rfl, hc2, hg2⟩
          have h_ := hc2
          obtain ⟨c0, c1, f0, f1, lt⟩ := h_
          go_wp2_with fail
          refine (HN.out _ (by repeat (first | exact hc2 | apply Cur.drawN | apply Cur.drew | apply Cur.set))).mono ?_
          rintro e w3 ⟨rfl, hc3, hg3⟩
          have h_ := hc3
          obtain ⟨c0, c1, f0, f1, lt⟩ := h_
          go_wp2_with fail
          go_quiet ((go_at_call 148; exact quiet_eq (must_yes _)))
          go_wp2
          have hc4 := Cur.setI (Cur.drawN hc3 nq) ((k : Int) + 1) (k + 1) (by omega)
          go_roundw
          case rel => exact ⟨k + 1, by omega, hc4, hR.out, (by repeat (first | exact World.grownBy.refl _ _ | apply grown_drawN | apply grown_drew | apply grown_set | exact (grown_trans hB (grown_trans hg2 hg3))))⟩
          case measure => rw [hp2, hc4.place]; omega
    · obtain rfl : k = s.size := by omega
      rw [qEnd, dif_neg (by omega)] at hR
      rw [nx_out hlt] at HN
      subst hR
      go_wp2_with fail
      refine (HN.out _ (by repeat (first | exact hc | apply Cur.drawN | apply Cur.drew | apply Cur.set))).mono ?_
      rintro e w2 ⟨rfl, hc2, hg2⟩
      have h_ := hc2
      obtain ⟨c0, c1, f0, f1, lt⟩ := h_
      go_wp2_with fail
      refine (HN.out _ (by repeat (first | exact hc2 | apply Cur.drawN | apply Cur.drew | apply Cur.set))).mono ?_
      rintro e w3 ⟨rfl, hc3, hg3⟩
      have h_ := hc3
      obtain ⟨c0, c1, f0, f1, lt⟩ := h_
      go_wp2_with fail
      refine wp_region_held_drew (S := fun w' => w'.cell? ⟨b, 0, none⟩ = some (.string s) ∧ w'.cell? ⟨b, 1, none⟩ = some (.int .i64 (s.size : Int))) (by kernel_rfl) ⟨by simpa using (hc3).c0, by simpa using (hc3).c1⟩ (fun hHeld => ?_)
      refine wpAnyH_take (i := 0) (oi := { dst := some 29, op := _, type := _, pos := _, after := _, guard := _ }) (v := .pointer (some ⟨b, 0, none⟩)) rfl (by kernel_rfl) (by kernel_rfl) (by kernel_rfl) (fun _ _ _ h => h) (Or.inl ⟨by rfl, by (intro w hSw; (try dsimp only at hSw); first | (go_simp; done) | (go_simp; with_reducible rfl) | (go_simp; omega) | (go_simp; simp [*]; done))⟩) (by assumption) ?_; try simp only [Act.put, List.setIfInBounds_toArray, List.set_cons_zero, List.set_cons_succ]
      refine wpAnyH_take (i := 1) (oi := { dst := some 30, op := _, type := _, pos := _, after := _, guard := _ }) (v := .pointer (some ⟨b, 0, none⟩)) rfl (by kernel_rfl) (by kernel_rfl) (by kernel_rfl) (fun _ _ _ h => h) (Or.inl ⟨by rfl, by (intro w hSw; (try dsimp only at hSw); first | (go_simp; done) | (go_simp; with_reducible rfl) | (go_simp; omega) | (go_simp; simp [*]; done))⟩) (by assumption) ?_; try simp only [Act.put, List.setIfInBounds_toArray, List.set_cons_zero, List.set_cons_succ]
      refine wpAnyH_take (i := 2) (oi := { dst := some 31, op := _, type := _, pos := _, after := _, guard := _ }) (v := .pointer (some ⟨b, 1, none⟩)) rfl (by kernel_rfl) (by kernel_rfl) (by kernel_rfl) (fun _ _ _ h => h) (Or.inl ⟨by rfl, by (intro w hSw; (try dsimp only at hSw); first | (go_simp; done) | (go_simp; with_reducible rfl) | (go_simp; omega) | (go_simp; simp [*]; done))⟩) (by assumption) ?_; try simp only [Act.put, List.setIfInBounds_toArray, List.set_cons_zero, List.set_cons_succ]
      refine wpAnyH_take (i := 3) (oi := { dst := some 32, op := _, type := _, pos := _, after := _, guard := _ }) (v := .int .i64 (s.size : Int)) rfl (by kernel_rfl) (by kernel_rfl) (by kernel_rfl) (fun _ _ _ h => h) (Or.inl ⟨by rfl, by (intro w hSw; (try dsimp only at hSw); first | (go_simp; done) | (go_simp; with_reducible rfl) | (go_simp; omega) | (go_simp; simp [*]; done))⟩) (by assumption) ?_; try simp only [Act.put, List.setIfInBounds_toArray, List.set_cons_zero, List.set_cons_succ]
      refine wpAnyH_take (i := 4) (oi := { dst := some 33, op := _, type := _, pos := _, after := _, guard := _ }) (v := .pointer (some ⟨b, 0, none⟩)) rfl (by kernel_rfl) (by kernel_rfl) (by kernel_rfl) (fun _ _ _ h => h) (Or.inl ⟨by rfl, by (intro w hSw; (try dsimp only at hSw); first | (go_simp; done) | (go_simp; with_reducible rfl) | (go_simp; omega) | (go_simp; simp [*]; done))⟩) (by assumption) ?_; try simp only [Act.put, List.setIfInBounds_toArray, List.set_cons_zero, List.set_cons_succ]
      refine wpAnyH_take (i := 5) (oi := { dst := some 34, op := _, type := _, pos := _, after := _, guard := _ }) (v := .pointer (some ⟨b, 0, none⟩)) rfl (by kernel_rfl) (by kernel_rfl) (by kernel_rfl) (fun _ _ _ h => h) (Or.inl ⟨by rfl, by (intro w hSw; (try dsimp only at hSw); first | (go_simp; done) | (go_simp; with_reducible rfl) | (go_simp; omega) | (go_simp; simp [*]; done))⟩) (by assumption) ?_; try simp only [Act.put, List.setIfInBounds_toArray, List.set_cons_zero, List.set_cons_succ]
      refine wpAnyH_take (i := 6) (oi := { dst := some 35, op := _, type := _, pos := _, after := _, guard := _ }) (v := .pointer (some ⟨b, 0, none⟩)) rfl (by kernel_rfl) (by kernel_rfl) (by kernel_rfl) (fun _ _ _ h => h) (Or.inl ⟨by rfl, by (intro w hSw; (try dsimp only at hSw); first | (go_simp; done) | (go_simp; with_reducible rfl) | (go_simp; omega) | (go_simp; simp [*]; done))⟩) (by assumption) ?_; try simp only [Act.put, List.setIfInBounds_toArray, List.set_cons_zero, List.set_cons_succ]
      refine wpAnyH_take (i := 7) (oi := { dst := some 36, op := _, type := _, pos := _, after := _, guard := _ }) (v := .string s) rfl (by kernel_rfl) (by kernel_rfl) (by kernel_rfl) (fun _ _ _ h => h) (Or.inl ⟨by rfl, by (intro w hSw; (try dsimp only at hSw); first | (go_simp; done) | (go_simp; with_reducible rfl) | (go_simp; omega) | (go_simp; simp [*]; done))⟩) (by assumption) ?_; try simp only [Act.put, List.setIfInBounds_toArray, List.set_cons_zero, List.set_cons_succ]
      refine wpAnyH_take (i := 8) (oi := { dst := some 37, op := _, type := _, pos := _, after := _, guard := _ }) (v := .int .i64 s.size) rfl (by kernel_rfl) (by kernel_rfl) (by kernel_rfl) (fun _ _ _ h => h) (Or.inl ⟨by rfl, by (intro w hSw; (try dsimp only at hSw); first | (go_simp; done) | (go_simp; with_reducible rfl) | (go_simp; omega) | (go_simp; simp [*]; done))⟩) (by assumption) ?_; try simp only [Act.put, List.setIfInBounds_toArray, List.set_cons_zero, List.set_cons_succ]
      refine wpAnyH_take (i := 9) (oi := { dst := some 38, op := _, type := _, pos := _, after := _, guard := _ }) (v := .bool false) rfl (by kernel_rfl) (by kernel_rfl) (by kernel_rfl) (fun _ _ _ h => h) (Or.inl ⟨by rfl, by (intro w hSw; (try dsimp only at hSw); first | (go_simp; done) | (go_simp; with_reducible rfl) | (go_simp; omega) | (go_simp; simp [*]; done))⟩) (by assumption) ?_; try simp only [Act.put, List.setIfInBounds_toArray, List.set_cons_zero, List.set_cons_succ]
      refine wpAnyH_ready (rs := [10]) (by kernel_rfl) (by simp) ?_
      refine AllReadyH.cons (o := { dst := some 39, op := _, type := _, pos := _, after := _, guard := _ }) rfl (fun K hK => ?_) AllReadyH.nil
      go_simp
      go_at_call 148
      refine (must_no _).mono ?_
      rintro e w5 ⟨rfl, rfl⟩
      exact ⟨rfl, rfl, (by repeat (first | exact World.grownBy.refl _ _ | apply grown_drawN | apply grown_drew | apply grown_set | exact (grown_trans hB (grown_trans hg2 hg3))))⟩
end Go.Proofs.YtijdghplfhfpaaaDoor.H
