/- Scripts cut into tokens: texts in quotes: the walk of the cutter's text. -/
import Derived.Test.YtpeenmbonhijmaaDoorCutA
import Derived.Test.YtpeenmbonhijmaaDoorNums
import Derived.Deep.QuietTactic
import Derived.BigQuiet
namespace Go.Proofs.YtpeenmbonhijmaaDoor.H
open Go.RowKit Go.Proofs.YtpeenmbonhijmaaDoorW.PrintWords Go.Proofs.YtpeenmbonhijmaaDoorW.PrintLast Go.Proofs.YtpeenmbonhijmaaDoorW.PrintMore Go.Proofs.YtpeenmbonhijmaaDoor.U
set_option linter.unusedVariables false
set_option linter.unusedSimpArgs false
/-- What the cutter's text hands back. -/
def PostStr (w : World) (b : Nat) (s : ByteArray) (R : Option (List UInt8 × Nat)) (e : Ending) (w' : World) : Prop :=
  match R with
  | some (r, d) => e = .returned (.tuple #[.string ⟨r.toArray⟩, .bool true]) ∧ Cur w' b s d ∧ w.grownBy w' (some b)
  | none => e = .returned (.tuple #[.string ⟨#[]⟩, .bool false]) ∧ w.grownBy w' (some b)
set_option maxHeartbeats 4000000 in
set_option maxRecDepth 100000 in
theorem ctext_calls (b : Nat) (s : ByteArray) (i : Nat) (w : World) (hc : Cur w b s i) (hi : i < s.size) (hs : s.size ≤ 1048576) :
    Calls Tryd.prog 143 #[.pointer (some ⟨b, 0, none⟩)] w (PostStr w b s (strAt s (i + 1) [])) := by
  generalize hR : strAt s (i + 1) [] = R
  have ltb := hc.lt
  have hcc := hc
  obtain ⟨c0, c1, f0, f1, lt⟩ := hcc
  go_enter Tryd.func143, Tryd.ntmps143
  go_wp2_with fail
  go_loopw [4] (fun v wr => ∃ (k : Nat) (acc : List UInt8), k ≤ s.size ∧ Cur wr b s k ∧ Kd.R (Kd.int .u8) 5 wr w.heap.size (fun _ => True) v (numsOf acc) ∧ strAt s k acc = R ∧ acc.length ≤ k ∧ w.grownBy wr (some b)) (fun _ wr => s.size - placeOf wr b)
  case atStart => exact ⟨i + 1, [], hi, hc.setI ((i : Int) + 1) (i + 1) (by omega), Kd.R_nil _ _ _ _ _, hR, Nat.zero_le _, grown_set (World.grownBy.refl _ _) _ _⟩
  case round =>
    clear hc hR c0 c1 f0 f1 lt
    obtain ⟨k, acc, hk, hc, hRow, hR, hacc, hB⟩ := hrel
    have hp2 := hc.place
    have hl := numsOf_len acc
    have hst := str_numsOf acc
    have hsn := fun x => numsOf_cat acc [x]
    have hzw := hB.size
    obtain ⟨A0, a0, rfl⟩ := Kd.R_slice hRow
    rw [hl] at hRow ⊢
    rw [strAt] at hR
    have hcc := hc
    obtain ⟨c0, c1, f0, f1, lt⟩ := hcc
    by_cases hlt : k < s.size
    · rw [dif_pos hlt] at hR
      have b0 := s[k].toNat_lt
      have i0 : (0 : Int) ≤ (k : Int) := by omega
      have i1 : (k : Int) < (s.size : Int) := by omega
      by_cases h34 : s[k].toNat = 34
      · rw [if_pos h34] at hR
        subst hR
        have e1 : ((s[k].toNat : Int) == 34) = true := by rw [beq_iff_eq]; omega
        clear h34 hsn
        have hl' := Lib.hid hl
        have hst := Lib.hid hst
        clear hl
        generalize numsOf acc = na at *
        go_wp2_with fail
        go_quiet (fail)
        have hc1 := (hc).drawN nq
        have hRow1 := Kd.R_drewN hRow nq
        have gg1 := grown_drawN hB nq
        generalize (wr).drewN nq = w1 at *
        clear c0 c1 f0 f1 lt
        have hcc := hc1
        obtain ⟨c0, c1, f0, f1, lt⟩ := hcc
        go_wp2_with fail
        go_quiet (fail)
        have hc2 := (hc1).drawN nq
        have hRow2 := Kd.R_drewN hRow1 nq
        have gg2 := grown_drawN gg1 nq
        generalize (w1).drewN nq = w2 at *
        clear c0 c1 f0 f1 lt
        have hcc := hc2
        obtain ⟨c0, c1, f0, f1, lt⟩ := hcc
        have hc3 := hc2.setI ((k : Int) + 1) (k + 1) (by omega)
        have hRow3 := R_elder hRow2 (p := ⟨b, 1, none⟩) (by simp; omega) (.int .i64 ((k : Int) + 1))
        have hcv := Kd.C_string (P := Tryd.prog) (src := 120) (dst := 9) (c := a0) Tryd.underlying120 Tryd.underlying5 Tryd.underlying9 (C_ofR hRow3)
        rw [hst.out, hl'.out] at hcv
        go_wp2_with fail
        go_ret2
        exact ⟨rfl, hc3, grown_set gg2 _ _⟩
      · rw [if_neg h34] at hR
        have e1 : ((s[k].toNat : Int) == 34) = false := by rw [beq_eq_false_iff_ne]; omega
        by_cases h92 : s[k].toNat = 92
        · rw [if_pos h92] at hR
          have e2 : ((s[k].toNat : Int) == 92) = true := by rw [beq_iff_eq]; omega
          clear h34 h92 hst
          go_wp2_with fail
          go_quiet (fail)
          have hc1 := (hc).drawN nq
          have hRow1 := Kd.R_drewN hRow nq
          have gg1 := grown_drawN hB nq
          generalize (wr).drewN nq = w1 at *
          clear c0 c1 f0 f1 lt
          have hcc := hc1
          obtain ⟨c0, c1, f0, f1, lt⟩ := hcc
          go_wp2_with fail
          go_quiet (fail)
          have hc2 := (hc1).drawN nq
          have hRow2 := Kd.R_drewN hRow1 nq
          have gg2 := grown_drawN gg1 nq
          generalize (w1).drewN nq = w2 at *
          clear c0 c1 f0 f1 lt
          have hcc := hc2
          obtain ⟨c0, c1, f0, f1, lt⟩ := hcc
          have hc3 := hc2.setI ((k : Int) + 1) (k + 1) (by omega)
          have hRow3 := R_elder hRow2 (p := ⟨b, 1, none⟩) (by simp; omega) (.int .i64 ((k : Int) + 1))
          have gg3 := grown_set gg2 1 (.int .i64 ((k : Int) + 1))
          by_cases hk1 : k + 1 < s.size
          · rw [dif_pos hk1] at hR
            have e3 : ((k : Int) + 1 == s.size) = false := by rw [beq_eq_false_iff_ne]; omega
            have i2 : (0 : Int) ≤ (k : Int) + 1 := by omega
            have i3 : (k : Int) + 1 < (s.size : Int) := by omega
            have hR := Lib.hid hR
            have hsn := hsn s[k + 1]
            go_wp2_with fail
            go_quiet (fail)
            have hc4 := hc3.drawN nq
            have hRow4 := Kd.R_drewN hRow3 nq
            have gg4 := grown_drawN gg3 nq
            generalize (w2.setCell ⟨b, 1, none⟩ (.int .i64 ((k : Int) + 1))).drewN nq = w4 at *
            clear c0 c1 f0 f1 lt hc3 hRow3 gg3
            have p0 := hc4.c0
            have p1 : w4.cell? ⟨b, 1, none⟩ = some (.int .i64 ((k : Int) + 1)) := by simpa using hc4.c1
            have lt4 := hc4.lt
            have z4 := gg4.size
            go_wp2_with fail
            go_region_held3 (fun w' => w'.cell? ⟨b, 0, none⟩ = some (.string s) ∧ w'.cell? ⟨b, 1, none⟩ = some (.int .i64 ((k : Int) + 1))) (first | exact ⟨p0, p1⟩ | go_keep)
              ((refine snoc_step rowU8 w.heap.size (by rfl) (.tmp 68) (.tmp 78) (by rfl) (.slice A0 acc.length a0) (numsOf acc) (s[k + 1].toNat : Int) [.int .u8 s[k + 1].toNat] (by rfl) (by rfl) rfl (Kd.R_drew hRow4) (by first | (simp; done) | (simp; omega) | omega) (by rw [hl]; omega) ?_; intro v1 w5 hR1 hb5 hg5; have hc5 := (hc4).drew.kept hg5 (fun he => by obtain ⟨inner, ho⟩ := Kd.R_own hRow4; have := own_base ho b he.symm; omega); have p0 := hc5.c0; have p1 : w5.cell? ⟨b, 1, none⟩ = some (.int .i64 ((k : Int) + 1)) := (by simpa using hc5.c1)))
            have gg5 := grown_more (grown_drew gg4) hb5 (Nat.le_refl _)
            have hc6 := hc5.setI ((k : Int) + 1 + 1) (k + 2) (by omega)
            have f5 := hc5.f1
            go_wp2_with fail
            go_roundw
            case rel => exact ⟨k + 2, acc ++ [s[k + 1]], by omega, hc6, R_elder (by rw [hsn]; exact hR1) (by simp; omega) _, hR.out, by simp; omega, grown_set gg5 _ _⟩
            case measure => rw [hp2, hc6.place]; omega
          · rw [dif_neg hk1] at hR
            subst hR
            have e3 : ((k : Int) + 1 == s.size) = true := by rw [beq_iff_eq]; omega
            go_wp2_with fail
            go_quiet (fail)
            go_wp2_with fail
            go_ret2
            exact ⟨rfl, grown_drawN gg3 _⟩
        · rw [if_neg h92] at hR
          have e2 : ((s[k].toNat : Int) == 92) = false := by rw [beq_eq_false_iff_ne]; omega
          have hR := Lib.hid hR
          have hsn := hsn s[k]
          clear h34 h92 hst
          go_wp2_with fail
          go_quiet (fail)
          have hc1 := (hc).drawN nq
          have hRow1 := Kd.R_drewN hRow nq
          have gg1 := grown_drawN hB nq
          generalize (wr).drewN nq = w1 at *
          clear c0 c1 f0 f1 lt
          have hcc := hc1
          obtain ⟨c0, c1, f0, f1, lt⟩ := hcc
          go_wp2_with fail
          go_quiet (fail)
          have hc2 := (hc1).drawN nq
          have hRow2 := Kd.R_drewN hRow1 nq
          have gg2 := grown_drawN gg1 nq
          generalize (w1).drewN nq = w2 at *
          clear c0 c1 f0 f1 lt
          have hcc := hc2
          obtain ⟨c0, c1, f0, f1, lt⟩ := hcc
          clear c0 c1 f0 f1 lt
          have p0 := hc2.c0
          have p1 := hc2.c1
          have lt4 := hc2.lt
          have z4 := gg2.size
          go_wp2_with fail
          go_region_held3 (fun w' => w'.cell? ⟨b, 0, none⟩ = some (.string s) ∧ w'.cell? ⟨b, 1, none⟩ = some (.int .i64 ((k : Int)))) (first | exact ⟨p0, p1⟩ | go_keep)
            ((refine snoc_step rowU8 w.heap.size (by rfl) (.tmp 68) (.tmp 78) (by rfl) (.slice A0 acc.length a0) (numsOf acc) (s[k].toNat : Int) [.int .u8 s[k].toNat] (by rfl) (by rfl) rfl (Kd.R_drew hRow2) (by first | (simp; done) | (simp; omega) | omega) (by rw [hl]; omega) ?_; intro v1 w5 hR1 hb5 hg5; have hc5 := (hc2).drew.kept hg5 (fun he => by obtain ⟨inner, ho⟩ := Kd.R_own hRow2; have := own_base ho b he.symm; omega); have p0 := hc5.c0; have p1 : w5.cell? ⟨b, 1, none⟩ = some (.int .i64 ((k : Int))) := (by simpa using hc5.c1)))
          have gg5 := grown_more (grown_drew gg2) hb5 (Nat.le_refl _)
          have hc6 := hc5.setI ((k : Int) + 1) (k + 1) (by omega)
          have f5 := hc5.f1
          go_wp2_with fail
          go_roundw
          case rel => exact ⟨k + 1, acc ++ [s[k]], hlt, hc6, R_elder (by rw [hsn]; exact hR1) (by simp; omega) _, hR.out, by simp; omega, grown_set gg5 _ _⟩
          case measure => rw [hp2, hc6.place]; omega
    · rw [dif_neg hlt] at hR
      subst hR
      obtain rfl : k = s.size := by omega
      go_wp2_with fail
      go_quiet (fail)
      go_wp2_with fail
      go_ret2
      exact ⟨rfl, grown_drawN hB _⟩
end Go.Proofs.YtpeenmbonhijmaaDoor.H
