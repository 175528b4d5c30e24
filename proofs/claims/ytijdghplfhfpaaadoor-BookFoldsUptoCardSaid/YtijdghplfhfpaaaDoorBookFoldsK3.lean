/- The claim BookFoldsUptoCardSaid, part 3 of 7. -/
import Derived.Test.YtijdghplfhfpaaaDoorBookFoldsK1
import Derived.Test.YtijdghplfhfpaaaDoorBookFoldsK2
import Derived.Deep.QuietTactic
import Derived.Deep.RegionHeld3
import Derived.BigQuiet
import Derived.Test.YtijdghplfhfpaaaDoorWApart
/- Lists of addresses: the reference's bits: the walk. -/
namespace Go.Proofs.YtijdghplfhfpaaaDoor.H
open Go.RowKit Go.Proofs.YtijdghplfhfpaaaDoorW.PrintWords Go.Proofs.YtijdghplfhfpaaaDoorW.PrintLast Go.Proofs.YtijdghplfhfpaaaDoor.U
set_option linter.unusedVariables false
set_option linter.unusedSimpArgs false
theorem rowABit : RowT Tryd.prog kABit 203 209 24 (.agg #[.string ⟨#[]⟩, .bool false, .bool false, .bool false]) :=
  ⟨Tryd.underlying203, by kernel_rfl, rfl, by decide, by decide, flat_kd⟩
set_option maxHeartbeats 1000000 in
set_option maxRecDepth 100000 in
theorem blankL_calls (c : Int) (w : World) : Calls Tryd.prog 188 #[.int .u8 c] w fun e w' => e = .returned (.bool (blankB c)) ∧ w = w' := by
  rcases (by omega : c = 32 ∨ c = 9 ∨ (c ≠ 32 ∧ c ≠ 9)) with rfl | rfl | ⟨h1, h2⟩
  all_goals
    go_enter Tryd.func188, Tryd.ntmps188
    go_wp2
    go_ret
    exact ⟨by simp [blankB, *], rfl⟩
/-- The bits, and whether what is quoted ends. -/
def PostBits (w : World) (R : Option (List ABit)) (e : Ending) (w' : World) : Prop :=
  match R with
  | some l => ∃ v : Value, e = .returned (.tuple #[v, .bool true]) ∧ Kd.R kABit 209 w' w.heap.size (fun _ => True) v l ∧ Below w.heap.size w w'
  | none => ∃ v : Value, e = .returned (.tuple #[v, .bool false]) ∧ Below w.heap.size w w'
theorem runB_no {s : ByteArray} {i : Nat} (hlt : i < s.size) (h : spanEnd runB s i = i) : runB s[i].toNat = false := by
  cases hr : runB s[i].toNat with
  | false => rfl
  | true =>
    rw [spanEnd_yes runB hlt hr] at h
    have := span_ge runB s (i + 1) (by omega)
    omega
set_option maxHeartbeats 1000000 in
set_option maxRecDepth 100000 in
theorem bitsOf_calls (s : ByteArray) (w : World) (hs : s.size ≤ 1048576) :
    Calls Tryd.prog 150 #[.string s] w (PostBits w (bitsP s 0 false)) := by
  generalize hR : bitsP s 0 false = R
  go_enter Tryd.func150, Tryd.ntmps150
  go_wp2_with fail
  go_loopw [4, 5, 6] (fun v va vi wr => ∃ (i : Nat) (ap : Bool) (acc : List ABit), i ≤ s.size ∧ va = .bool ap ∧ vi = .int .i64 i ∧ Kd.R kABit 209 wr w.heap.size (fun _ => True) v acc ∧ (bitsP s i ap).map (acc ++ ·) = R ∧ acc.length ≤ i ∧ Below w.heap.size w wr) (fun _ _ vi _ => s.size - (intOf vi).toNat)
  case atStart => exact ⟨0, false, [], Nat.zero_le _, rfl, rfl, Kd.R_nil _ _ _ _ _, by rw [← hR]; cases bitsP s 0 false <;> rfl, Nat.le_refl _, Below.refl _ _⟩
  case round =>
    clear hR
    obtain ⟨i, ap, acc, hi, rfl, rfl, hRow, hR, hacc, hB⟩ := hrel
    obtain ⟨A0, cap0, rfl⟩ := Kd.R_slice hRow
    by_cases hlt : i < s.size
    · have b0 := s[i].toNat_lt
      have i1 : (i : Int) < (s.size : Int) := by omega
      have HBl := fun w => blankL_calls s[i].toNat w
      cases hb : blankB s[i].toNat with
      | true =>
        rw [bits_blank s i ap hlt hb] at hR
        rw [hb] at HBl
        have HBl := Lib.hid HBl
        have hR := Lib.hid hR
        clear hb
        go_wp2_with (go_at_call 188; refine (HBl.out _).mono ?_; rintro e w2 ⟨rfl, rfl⟩)
        go_roundw
        case rel => exact ⟨i + 1, true, acc, hlt, rfl, by go_num, hRow, hR.out, by omega, hB⟩
        case measure => simp [intOf]; omega
      | false =>
        rw [hb] at HBl
        have HBl := Lib.hid HBl
        have hb' := hb
        clear hb
        have hb := Lib.hid hb'
        clear hb'
        have hR' := hR
        clear hR
        have hR' := Lib.hid hR'
        go_wp2_with (go_at_call 188; refine (HBl.out _).mono ?_; rintro e w2 ⟨rfl, rfl⟩)
        obtain ⟨wo, rfl⟩ : ∃ wo : World, wo = wr := ⟨_, rfl⟩
        generalize hE : spanEnd runB s i = E
        go_loopw [7] (fun v wr => ∃ k : Nat, i ≤ k ∧ k ≤ s.size ∧ v = .int .i64 k ∧ spanEnd runB s k = E ∧ Below wo.heap.size wo wr) (fun v _ => s.size - (intOf v).toNat)
        case atStart => exact ⟨i, Nat.le_refl _, hi, rfl, hE, Below.refl _ _⟩
        case round =>
          obtain ⟨k, hik, hk, rfl, hEk, hBo⟩ := hrel
          have hR' := hR'.out
          have hBk : Below w.heap.size w wr := hB.trans (hBo.mono hB.size)
          have hz := hBo.size
          have hzB := hB.size
          by_cases hlk : k < s.size
          · have b1 := s[k].toNat_lt
            have i2 : (k : Int) < (s.size : Int) := by omega
            have HAt := fun w => atomByte_calls s[k].toNat w (by omega) (by omega)
            have hy := spanEnd_yes runB hlk
            have hn := spanEnd_no runB hlk
            unfold runB at hy hn
            generalize atomB s[k].toNat = at_ at HAt hy hn
            have HAt := Lib.hid HAt
            by_cases h1 : at_ = true ∨ s[k].toNat = 46
            · have hq := Lib.hid ((hy (by rcases h1 with h1 | h1 <;> simp [h1])).symm.trans hEk)
              clear hn hy hEk
              rcases (by cases at_ <;> simp_all : at_ = true ∨ (at_ = false ∧ s[k].toNat = 46)) with rfl | ⟨rfl, h2⟩
              · clear h1
                go_wp2_with (go_at_call 189; refine (HAt.out _).mono ?_; rintro e w2 ⟨rfl, hb2⟩)
                go_roundw
                case rel => exact ⟨k + 1, by omega, hlk, by go_num, hq.out, hBo.trans (hb2.mono hz)⟩
                case measure => simp [intOf]; omega
              · have e1 : ((s[k].toNat : Int) == 46) = true := by rw [beq_iff_eq]; omega
                clear h1 h2
                go_wp2_with (go_at_call 189; refine (HAt.out _).mono ?_; rintro e w2 ⟨rfl, hb2⟩)
                go_roundw
                case rel => exact ⟨k + 1, by omega, hlk, by go_num, hq.out, hBo.trans (hb2.mono hz)⟩
                case measure => simp [intOf]; omega
            · obtain ⟨rfl, h2⟩ : at_ = false ∧ s[k].toNat ≠ 46 := ⟨by cases at_ <;> simp_all, fun h => h1 (.inr h)⟩
              have hkE : spanEnd runB s i = k := hE.trans ((hn (by simp; omega)).symm.trans hEk).symm
              have e1 : ((s[k].toNat : Int) == 46) = false := by rw [beq_eq_false_iff_ne]; omega
              clear hn hy hEk hE h1 h2
              by_cases hki : i < k
              · rw [bits_run s i ap (by omega) (by omega), hkE] at hR'
                have i3 : (i : Int) < (k : Int) := by omega
                have hR := Lib.hid hR'
                clear hR' hkE
                have i4 : (0 : Int) ≤ (i : Int) := by omega
                have i5 : (i : Int) ≤ (k : Int) := by omega
                go_wp2_with (first | (go_at_call 189; refine (HAt.out _).mono ?_; rintro e w2 ⟨rfl, hb2⟩; have hRow2 := Kd.R_below hRow (hBo.trans (hb2.mono hz)); have hz2 := hb2.size) | (at_builtin; refine snoc_list rowABit w.heap.size rfl _ _ rfl (.slice A0 acc.length cap0) acc (⟨s.extract i k, true, false, ap⟩ : ABit) [.string (s.extract i k), .bool true, .bool false, .bool ap] rfl rfl rfl hRow2 (by omega) (by omega) ?_; intro v1 w3 hR1 hb3 hg3))
                go_roundw
                case rel => exact ⟨k, false, _, hk, rfl, rfl, hR1, by rw [← hR.out]; simp [List.append_assoc, Function.comp_def], by simp; omega, (hBk.trans (hb2.mono (by omega))).trans hb3⟩
                case measure => simp [intOf]; omega
              · obtain rfl : i = k := by omega
                have i3 : ¬ (i : Int) < (i : Int) := by omega
                have hr := runB_no hlt hkE
                by_cases h34 : s[i].toNat = 34
                · rw [bits_quoted s i ap hlt h34] at hR'
                  have e2 : ((s[i].toNat : Int) != 34) = false := by rw [bne_eq_false_iff_eq]; omega
                  clear hkE hr h34
                  go_wp2_with (go_at_call 189; refine (HAt.out _).mono ?_; rintro e w2 ⟨rfl, hb2⟩; have hRow2 := Kd.R_below hRow (hBo.trans (hb2.mono hz)); have hz2 := hb2.size)
                  have hB2 := hBk.trans (hb2.mono (by omega))
                  have hzz2 := hB2.size
                  clear HAt HBl hb hBo hBk hb2 hB
                  obtain ⟨w3, rfl⟩ : ∃ w3 : World, w3 = w2 := ⟨_, rfl⟩
                  generalize hQ : qEnd s (i + 1) = QE at *
                  go_loopw [7] (fun v wr => ∃ q : Nat, i < q ∧ v = .int .i64 q ∧ ((q ≤ s.size ∧ qEnd s q = QE) ∨ (q = s.size + 1 ∧ QE = none)) ∧ w3 = wr) (fun v _ => s.size + 1 - (intOf v).toNat)
                  case atStart => exact ⟨i + 1, by omega, by go_num, .inl ⟨hlt, hQ⟩, rfl⟩
                  case round =>
                    obtain ⟨q, hiq, rfl, hq, rfl⟩ := hrel
                    clear hQ
                    rcases hq with ⟨hqs, hQ⟩ | ⟨rfl, rfl⟩
                    · by_cases hlq : q < s.size
                      · rw [qEnd, dif_pos hlq] at hQ
                        have b2 := s[q].toNat_lt
                        have i6 : (q : Int) < (s.size : Int) := by omega
                        by_cases h1 : s[q].toNat = 34
                        · rw [if_pos h1] at hQ
                          subst hQ
                          have e3 : ((s[q].toNat : Int) != 34) = false := by rw [bne_eq_false_iff_eq]; omega
                          simp only [Option.bind_some] at hR'
                          have hR := Lib.hid hR'
                          clear hR' h1
                          go_wp2_with (at_builtin; refine snoc_list rowABit w.heap.size rfl _ _ rfl (.slice A0 acc.length cap0) acc (⟨⟨#[]⟩, false, true, ap⟩ : ABit) [.string ⟨#[]⟩, .bool false, .bool true, .bool ap] rfl rfl rfl hRow2 (by omega) (by omega) ?_; intro v1 w4 hR1 hb4 hg4)
                          go_roundw
                          case rel => exact ⟨q + 1, false, _, hlq, rfl, by go_num, hR1, by rw [← hR.out]; simp [List.append_assoc, Function.comp_def], by simp; omega, hB2.trans hb4⟩
                          case measure => simp [intOf]; omega
                        · rw [if_neg h1] at hQ
                          have e3 : ((s[q].toNat : Int) != 34) = true := by rw [bne_iff_ne]; omega
                          by_cases h2 : s[q].toNat = 92
                          · rw [if_pos h2] at hQ
                            have e4 : ((s[q].toNat : Int) == 92) = true := by rw [beq_iff_eq]; omega
                            clear h1 h2
                            have hQ2 : (q + 2 ≤ s.size ∧ qEnd s (q + 2) = QE) ∨ (q + 2 = s.size + 1 ∧ QE = none) := by
                              by_cases h3 : q + 1 < s.size
                              · rw [if_pos h3] at hQ; exact .inl ⟨by omega, hQ⟩
                              · rw [if_neg h3] at hQ; exact .inr ⟨by omega, hQ.symm⟩
                            have hQ2 := Lib.hid hQ2
                            clear hQ
                            go_wp2_with fail
                            go_roundw
                            case rel => exact ⟨q + 2, by omega, by go_num, hQ2.out, by trivial⟩
                            case measure => simp [intOf]; omega
                          · rw [if_neg h2] at hQ
                            have e4 : ((s[q].toNat : Int) == 92) = false := by rw [beq_eq_false_iff_ne]; omega
                            clear h1 h2
                            have hQ := Lib.hid hQ
                            go_wp2_with fail
                            go_roundw
                            case rel => exact ⟨q + 1, by omega, by go_num, .inl ⟨by omega, hQ.out⟩, by trivial⟩
                            case measure => simp [intOf]; omega
                      · rw [qEnd, dif_neg hlq] at hQ
                        subst hQ
                        simp only [Option.bind_none, Option.map_none] at hR'
                        subst hR'
                        obtain rfl : q = s.size := by omega
                        go_wp2_with fail
                        go_ret2
                        exact ⟨_, rfl, hB2⟩
                    · simp only [Option.bind_none, Option.map_none] at hR'
                      subst hR'
                      have i6 : ¬ ((s.size : Int) + 1 < (s.size : Int)) := by omega
                      have i7 : (s.size : Int) ≤ (s.size : Int) + 1 := by omega
                      go_wp2_with fail
                      go_ret2
                      exact ⟨_, rfl, hB2⟩
                · rw [bits_one s i ap hlt hb.out hr h34, ← ext_one hlt] at hR'
                  have e2 : ((s[i].toNat : Int) != 34) = true := by rw [bne_iff_ne]; omega
                  clear hkE hr h34
                  have hR := Lib.hid hR'
                  clear hR'
                  have i4 : (i : Int) ≤ (i : Int) + 1 := by omega
                  have i5 : (i : Int) + 1 ≤ s.size := by omega
                  go_wp2_with (first | (go_at_call 189; refine (HAt.out _).mono ?_; rintro e w2 ⟨rfl, hb2⟩; have hRow2 := Kd.R_below hRow (hBo.trans (hb2.mono hz)); have hz2 := hb2.size) | (at_builtin; refine snoc_list rowABit w.heap.size rfl _ _ rfl (.slice A0 acc.length cap0) acc (⟨s.extract i (i + 1), false, false, ap⟩ : ABit) [.string (s.extract i (i + 1)), .bool false, .bool false, .bool ap] rfl rfl rfl hRow2 (by omega) (by omega) ?_; intro v1 w3 hR1 hb3 hg3))
                  go_roundw
                  case rel => exact ⟨i + 1, false, _, hlt, rfl, by go_num, hR1, by rw [← hR.out]; simp [List.append_assoc, Function.comp_def], by simp; omega, (hBk.trans (hb2.mono (by omega))).trans hb3⟩
                  case measure => simp [intOf]; omega
          · obtain rfl : k = s.size := by omega
            have hkE : spanEnd runB s i = s.size := by rw [hE, ← hEk, spanEnd_end _ (by omega)]
            clear hEk hE
            rw [bits_run s i ap (by omega) (by omega), hkE] at hR'
            have i3 : (i : Int) < (s.size : Int) := by omega
            have hRow2 := Kd.R_below hRow hBo
            have hR := Lib.hid hR'
            clear hR' hkE
            have i4 : (0 : Int) ≤ (i : Int) := by omega
            have i5 : (i : Int) ≤ (s.size : Int) := by omega
            go_wp2_with (first | (fail) | (at_builtin; refine snoc_list rowABit w.heap.size rfl _ _ rfl (.slice A0 acc.length cap0) acc (⟨s.extract i s.size, true, false, ap⟩ : ABit) [.string (s.extract i s.size), .bool true, .bool false, .bool ap] rfl rfl rfl hRow2 (by omega) (by omega) ?_; intro v1 w3 hR1 hb3 hg3))
            go_roundw
            case rel => exact ⟨s.size, false, _, Nat.le_refl _, rfl, rfl, hR1, by rw [← hR.out]; simp [List.append_assoc, Function.comp_def], by simp; omega, (hBk).trans hb3⟩
            case measure => simp [intOf]; omega
    · obtain rfl : i = s.size := by omega
      rw [bits_end s _ ap hlt] at hR
      simp only [Option.map_some, List.append_nil] at hR
      subst hR
      go_wp2_with fail
      go_ret2
      exact ⟨_, rfl, hRow, hB⟩
end Go.Proofs.YtijdghplfhfpaaaDoor.H

/- Lists of addresses: the reference's plainAt, addressAt: the walks. -/
namespace Go.Proofs.YtijdghplfhfpaaaDoor.H
open Go.RowKit Go.Proofs.YtijdghplfhfpaaaDoorW.PrintWords Go.Proofs.YtijdghplfhfpaaaDoorW.PrintLast Go.Proofs.YtijdghplfhfpaaaDoor.U
set_option linter.unusedVariables false
set_option linter.unusedSimpArgs false
/-- An address without words, and how many bits that are. -/
def PostPlain (w : World) (R : Option (AAddress × List ABit)) (e : Ending) (w' : World) : Prop :=
  match R with
  | some (a, _) => e = .returned (.tuple #[.agg #[.string a.loc, .string a.dom], .int .i64 3]) ∧ Below w.heap.size w w'
  | none => e = .returned (.tuple #[.agg #[.string ⟨#[]⟩, .string ⟨#[]⟩], .int .i64 0]) ∧ Below w.heap.size w w'
theorem plain_short (ok : ByteArray → ByteArray → Bool) (l : List ABit) (i : Nat) (h : l.length ≤ i + 2) : plainR ok (l.drop i) = none := by
  have : (l.drop i).length ≤ 2 := by rw [List.length_drop]; omega
  match hd : l.drop i with
  | [] => rfl
  | [_] => rfl
  | [_, _] => rfl
  | _ :: _ :: _ :: _ => rw [hd] at this; simp at this
theorem drop3 (l : List ABit) (i : Nat) (h : i + 2 < l.length) : l.drop i = l[i] :: l[i + 1] :: l[i + 2] :: l.drop (i + 3) := by
  rw [List.drop_eq_getElem_cons (by omega : i < l.length), List.drop_eq_getElem_cons (by omega : i + 1 < l.length), List.drop_eq_getElem_cons h]
set_option maxHeartbeats 1000000 in
set_option maxRecDepth 100000 in
theorem plainAt_calls (A : Option Addr) (c : Nat) (l : List ABit) (i : Nat) (w : World) (hr : Kd.C kABit w A l.length l) (hi : i ≤ l.length) (hl : l.length ≤ 1048577) (hs : ∀ b ∈ l, b.text.size ≤ 1048576) :
    Calls Tryd.prog 190 #[.slice A l.length c, .int .i64 i] w (PostPlain w (plainR okAddr (l.drop i))) := by
  by_cases h2 : i + 2 < l.length
  · rw [drop3 l i h2]
    have hrA := Kd.C_alloc hr (.cells #[.string ⟨#[]⟩, .string ⟨#[]⟩] 49)
    obtain ⟨ad, e1, x0, xj⟩ := flat_at hrA i (by omega)
    obtain ⟨ad', e2, y0, yj⟩ := flat_at hrA (i + 1) (by omega)
    obtain ⟨ad'', e3, z0, zj⟩ := flat_at hrA (i + 2) h2
    subst e1
    obtain rfl := Option.some.inj e2
    obtain rfl := Option.some.inj e3
    have p0 := x0 _ rfl; have p1 := xj 1 _ (by decide) rfl
    have q0 := y0 _ rfl; have q1 := yj 1 _ (by decide) rfl; have q2 := yj 2 _ (by decide) rfl; have q3 := yj 3 _ (by decide) rfl
    have r0 := z0 _ rfl; have r1 := zj 1 _ (by decide) rfl; have r2 := zj 2 _ (by decide) rfl; have r3 := zj 3 _ (by decide) rfl
    clear x0 xj y0 yj z0 zj
    have s0 := hs _ (List.getElem_mem (by omega : i < l.length))
    have s2 := hs _ (List.getElem_mem h2)
    generalize l[i] = b0 at *
    generalize l[i + 1] = b1 at *
    generalize l[i + 2] = b2 at *
    obtain ⟨t0, u0, v0, a0⟩ := b0
    obtain ⟨t1, u1, v1, a1⟩ := b1
    obtain ⟨t2, u2, v2, a2⟩ := b2
    simp only at p0 p1 q0 q1 q2 q3 r0 r1 r2 r3 s0 s2
    have i0 : (0 : Int) ≤ (i : Int) := by omega
    have i1 : (i : Int) < (l.length : Int) := by omega
    have i2 : (i : Int) + 1 < (l.length : Int) := by omega
    have i3 : (i : Int) + 2 < (l.length : Int) := by omega
    have HC := fun w => addressFault_calls t0 t2 w s0 s2
    simp only [plainR]
    generalize hP : (if u0 = true ∧ t1 = ⟨#[64]⟩ ∧ u2 = true ∧ a1 = false ∧ a2 = false ∧ okAddr t0 t2 = true then some ((⟨t0, t2⟩ : AAddress), l.drop (i + 3)) else none) = P
    unfold okAddr at hP
    generalize addrFault t0 t2 = f at *
    have HC := Lib.hid HC
    have hP := Lib.hid hP
    clear hr hrA hs hi
    cases u0 with
    | false =>
      obtain rfl : none = P := by simpa using hP.out
      clear hP
      go_enter Tryd.func190, Tryd.ntmps190
      go_wp2
      refine bodyPost_ret (v := .tuple #[.agg #[.string ⟨#[]⟩, .string ⟨#[]⟩], .int .i64 0]) (by simp [results, Tryd.results190, go_sem, *]) rfl ?_
      exact ⟨rfl, (by repeat (first | exact Below.refl _ _ | apply below_alloc | apply pw_below_drewN | apply below_drew1 | (refine Below.setCell ?_ (by first | (simp; done) | (simp; omega) | omega) _) ))⟩
    | true =>
      by_cases ht : t1 = ⟨#[64]⟩
      · have e1 := lit_yes (l := [64]) ht
        cases u2 with
        | false =>
          obtain rfl : none = P := by simpa using hP.out
          clear hP ht
          go_enter Tryd.func190, Tryd.ntmps190
          go_wp2
          refine bodyPost_ret (v := .tuple #[.agg #[.string ⟨#[]⟩, .string ⟨#[]⟩], .int .i64 0]) (by simp [results, Tryd.results190, go_sem, *]) rfl ?_
          exact ⟨rfl, (by repeat (first | exact Below.refl _ _ | apply below_alloc | apply pw_below_drewN | apply below_drew1 | (refine Below.setCell ?_ (by first | (simp; done) | (simp; omega) | omega) _) ))⟩
        | true =>
          cases a1 with
          | true =>
            obtain rfl : none = P := by simpa using hP.out
            clear hP ht
            go_enter Tryd.func190, Tryd.ntmps190
            go_wp2
            refine bodyPost_ret (v := .tuple #[.agg #[.string ⟨#[]⟩, .string ⟨#[]⟩], .int .i64 0]) (by simp [results, Tryd.results190, go_sem, *]) rfl ?_
            exact ⟨rfl, (by repeat (first | exact Below.refl _ _ | apply below_alloc | apply pw_below_drewN | apply below_drew1 | (refine Below.setCell ?_ (by first | (simp; done) | (simp; omega) | omega) _) ))⟩
          | false =>
            cases a2 with
            | true =>
              obtain rfl : none = P := by simpa using hP.out
              clear hP ht
              go_enter Tryd.func190, Tryd.ntmps190
              go_wp2
              refine bodyPost_ret (v := .tuple #[.agg #[.string ⟨#[]⟩, .string ⟨#[]⟩], .int .i64 0]) (by simp [results, Tryd.results190, go_sem, *]) rfl ?_
              exact ⟨rfl, (by repeat (first | exact Below.refl _ _ | apply below_alloc | apply pw_below_drewN | apply below_drew1 | (refine Below.setCell ?_ (by first | (simp; done) | (simp; omega) | omega) _) ))⟩
            | false =>
              by_cases hf : f = 0
              · obtain rfl : some ((⟨t0, t2⟩ : AAddress), l.drop (i + 3)) = P := by simpa [ht, hf] using hP.out
                clear hP ht
                subst hf
                go_enter Tryd.func190, Tryd.ntmps190
                go_wp2_with fail
                have hw1 : IntKind.i64.wrap ((i : Int) + 2) = (i : Int) + 2 := by rw [IntKind.wrap_i64]; omega
                have hw2 : (0 : Int) ≤ (i : Int) + 2 := by omega
                have hw3 : ((i : Int) + 2).toNat = i + 2 := by omega
                go_region_held3 (fun w' => w'.cell? (ad.add (i * 4)) = some (.string t0) ∧ w'.cell? (ad.add ((i + 2) * 4)) = some (.string t2))
                  (first | exact ⟨cell_drew' p0, cell_drew' r0⟩ | exact ⟨cell_alloc' (cell_drew' p0) _, cell_alloc' (cell_drew' r0) _⟩ | go_keep) (fail)
                clear hw1 hw2 hw3
                go_wp2_with fail
                refine (HC.out _).mono ?_
                rintro e w1 ⟨rfl, hb1⟩
                obtain ⟨hc_w1, hf_w1⟩ := bcell hb1
                have s_ := hb1.size
                (try simp at s_)
                (first | (have : w.heap.size < w1.heap.size := by omega) | skip)
                have : w.heap.size ≤ w1.heap.size := by omega
                clear s_
                have : w1.cell? ⟨w.heap.size, 0, none⟩ = some (.string ⟨#[]⟩) := (by rw [hc_w1 _ _ (by first | (simp; done) | (simp; omega))]; first | (simp; done) | (simp [*]; done) | assumption | (simp [go_sem, *]; done)); have : w1.frozen? ⟨w.heap.size, 0, none⟩ = false := (by rw [hf_w1 _ _ (by first | (simp; done) | (simp; omega))]; first | (simp; done) | (simp [*]; done) | assumption | (simp [go_sem, *]; done)); have : w1.cell? ⟨w.heap.size, 1, none⟩ = some (.string ⟨#[]⟩) := (by rw [hc_w1 _ _ (by first | (simp; done) | (simp; omega))]; first | (simp; done) | (simp [*]; done) | assumption | (simp [go_sem, *]; done)); have : w1.frozen? ⟨w.heap.size, 1, none⟩ = false := (by rw [hf_w1 _ _ (by first | (simp; done) | (simp; omega))]; first | (simp; done) | (simp [*]; done) | assumption | (simp [go_sem, *]; done))
                have : w1.cell? ⟨w.heap.size + 1, 0, none⟩ = some (.string t0) := (by rw [hc_w1 _ _ (by first | (simp; done) | (simp; omega))]; first | (simp; done) | (simp [*]; done) | assumption | (simp [go_sem, *]; done)); have : w1.frozen? ⟨w.heap.size + 1, 0, none⟩ = false := (by rw [hf_w1 _ _ (by first | (simp; done) | (simp; omega))]; first | (simp; done) | (simp [*]; done) | assumption | (simp [go_sem, *]; done)); have : w1.cell? ⟨w.heap.size + 1, 1, none⟩ = some (.string t2) := (by rw [hc_w1 _ _ (by first | (simp; done) | (simp; omega))]; first | (simp; done) | (simp [*]; done) | assumption | (simp [go_sem, *]; done)); have : w1.frozen? ⟨w.heap.size + 1, 1, none⟩ = false := (by rw [hf_w1 _ _ (by first | (simp; done) | (simp; omega))]; first | (simp; done) | (simp [*]; done) | assumption | (simp [go_sem, *]; done))
                clear hc_w1 hf_w1
                go_wp2_with fail
                refine bodyPost_ret (v := .tuple #[.agg #[.string t0, .string t2], .int .i64 3]) (by simp [results, Tryd.results190, go_sem, *]) rfl ?_
                exact ⟨rfl, (by repeat (first | exact Below.refl _ _ | apply below_alloc | apply pw_below_drewN | apply below_drew1 | (refine Below.setCell ?_ (by first | (simp; done) | (simp; omega) | omega) _) | (refine below_then ?_ (by first | (simp; done) | (simp; omega) | omega) hb1)))⟩
              · obtain rfl : none = P := by simpa [hf] using hP.out
                have e2 : (f != 0) = true := by rw [bne_iff_ne]; exact hf
                clear hP ht
                go_enter Tryd.func190, Tryd.ntmps190
                go_wp2_with fail
                have hw1 : IntKind.i64.wrap ((i : Int) + 2) = (i : Int) + 2 := by rw [IntKind.wrap_i64]; omega
                have hw2 : (0 : Int) ≤ (i : Int) + 2 := by omega
                have hw3 : ((i : Int) + 2).toNat = i + 2 := by omega
                go_region_held3 (fun w' => w'.cell? (ad.add (i * 4)) = some (.string t0) ∧ w'.cell? (ad.add ((i + 2) * 4)) = some (.string t2))
                  (first | exact ⟨cell_drew' p0, cell_drew' r0⟩ | exact ⟨cell_alloc' (cell_drew' p0) _, cell_alloc' (cell_drew' r0) _⟩ | go_keep) (fail)
                clear hw1 hw2 hw3
                go_wp2_with fail
                refine (HC.out _).mono ?_
                rintro e w1 ⟨rfl, hb1⟩
                obtain ⟨hc_w1, hf_w1⟩ := bcell hb1
                have s_ := hb1.size
                (try simp at s_)
                (first | (have : w.heap.size < w1.heap.size := by omega) | skip)
                have : w.heap.size ≤ w1.heap.size := by omega
                clear s_
                have : w1.cell? ⟨w.heap.size, 0, none⟩ = some (.string ⟨#[]⟩) := (by rw [hc_w1 _ _ (by first | (simp; done) | (simp; omega))]; first | (simp; done) | (simp [*]; done) | assumption | (simp [go_sem, *]; done)); have : w1.frozen? ⟨w.heap.size, 0, none⟩ = false := (by rw [hf_w1 _ _ (by first | (simp; done) | (simp; omega))]; first | (simp; done) | (simp [*]; done) | assumption | (simp [go_sem, *]; done)); have : w1.cell? ⟨w.heap.size, 1, none⟩ = some (.string ⟨#[]⟩) := (by rw [hc_w1 _ _ (by first | (simp; done) | (simp; omega))]; first | (simp; done) | (simp [*]; done) | assumption | (simp [go_sem, *]; done)); have : w1.frozen? ⟨w.heap.size, 1, none⟩ = false := (by rw [hf_w1 _ _ (by first | (simp; done) | (simp; omega))]; first | (simp; done) | (simp [*]; done) | assumption | (simp [go_sem, *]; done))
                have : w1.cell? ⟨w.heap.size + 1, 0, none⟩ = some (.string t0) := (by rw [hc_w1 _ _ (by first | (simp; done) | (simp; omega))]; first | (simp; done) | (simp [*]; done) | assumption | (simp [go_sem, *]; done)); have : w1.frozen? ⟨w.heap.size + 1, 0, none⟩ = false := (by rw [hf_w1 _ _ (by first | (simp; done) | (simp; omega))]; first | (simp; done) | (simp [*]; done) | assumption | (simp [go_sem, *]; done)); have : w1.cell? ⟨w.heap.size + 1, 1, none⟩ = some (.string t2) := (by rw [hc_w1 _ _ (by first | (simp; done) | (simp; omega))]; first | (simp; done) | (simp [*]; done) | assumption | (simp [go_sem, *]; done)); have : w1.frozen? ⟨w.heap.size + 1, 1, none⟩ = false := (by rw [hf_w1 _ _ (by first | (simp; done) | (simp; omega))]; first | (simp; done) | (simp [*]; done) | assumption | (simp [go_sem, *]; done))
                clear hc_w1 hf_w1
                go_wp2_with fail
                refine bodyPost_ret (v := .tuple #[.agg #[.string ⟨#[]⟩, .string ⟨#[]⟩], .int .i64 0]) (by simp [results, Tryd.results190, go_sem, *]) rfl ?_
                exact ⟨rfl, (by repeat (first | exact Below.refl _ _ | apply below_alloc | apply pw_below_drewN | apply below_drew1 | (refine Below.setCell ?_ (by first | (simp; done) | (simp; omega) | omega) _) | (refine below_then ?_ (by first | (simp; done) | (simp; omega) | omega) hb1)))⟩
      · have e1 := lit_no (l := [64]) ht
        obtain rfl : none = P := by simpa [ht] using hP.out
        clear hP ht
        go_enter Tryd.func190, Tryd.ntmps190
        go_wp2
        refine bodyPost_ret (v := .tuple #[.agg #[.string ⟨#[]⟩, .string ⟨#[]⟩], .int .i64 0]) (by simp [results, Tryd.results190, go_sem, *]) rfl ?_
        exact ⟨rfl, (by repeat (first | exact Below.refl _ _ | apply below_alloc | apply pw_below_drewN | apply below_drew1 | (refine Below.setCell ?_ (by first | (simp; done) | (simp; omega) | omega) _) ))⟩
  · rw [plain_short _ l i (by omega)]
    have i3 : (l.length : Int) ≤ (i : Int) + 2 := by omega
    go_enter Tryd.func190, Tryd.ntmps190
    go_wp2
    refine bodyPost_ret (v := .tuple #[.agg #[.string ⟨#[]⟩, .string ⟨#[]⟩], .int .i64 0]) (by simp [results, Tryd.results190, go_sem, *]) rfl ?_
    exact ⟨rfl, (by repeat (first | exact Below.refl _ _ | apply below_alloc | apply pw_below_drewN | apply below_drew1 | (refine Below.setCell ?_ (by first | (simp; done) | (simp; omega) | omega) _) ))⟩
end Go.Proofs.YtijdghplfhfpaaaDoor.H

/- Lists of addresses: the reference's addressAt: the walk. -/
namespace Go.Proofs.YtijdghplfhfpaaaDoor.H
open Go.RowKit Go.Proofs.YtijdghplfhfpaaaDoorW.PrintWords Go.Proofs.YtijdghplfhfpaaaDoorW.PrintLast Go.Proofs.YtijdghplfhfpaaaDoor.U
set_option linter.unusedVariables false
set_option linter.unusedSimpArgs false
/-- An address, and the place behind it. -/
def PostAddr (w : World) (l : List ABit) (R : Option (AAddress × List ABit)) (e : Ending) (w' : World) : Prop :=
  match R with
  | some (a, r) => ∃ d : Nat, e = .returned (.tuple #[.agg #[.string a.loc, .string a.dom], .int .i64 d]) ∧ d ≤ l.length ∧ r = l.drop d ∧ Below w.heap.size w w'
  | none => e = .returned (.tuple #[.agg #[.string ⟨#[]⟩, .string ⟨#[]⟩], .int .i64 (-1)]) ∧ Below w.heap.size w w'
theorem plain_rest {ok : ByteArray → ByteArray → Bool} {l r : List ABit} {i : Nat} {a : AAddress} (h : plainR ok (l.drop i) = some (a, r)) : i + 2 < l.length ∧ r = l.drop (i + 3) := by
  rcases Nat.lt_or_ge (i + 2) l.length with h1 | h1
  · rw [drop3 l i h1, plainR] at h
    split at h
    · cases h; exact ⟨h1, rfl⟩
    · cases h
  · rw [plain_short ok l i h1] at h; cases h
set_option maxHeartbeats 8000000 in
set_option maxRecDepth 100000 in
theorem addressAt_calls (A : Option Addr) (c : Nat) (l : List ABit) (i : Nat) (w : World) (hr : Kd.C kABit w A l.length l) (hi : i ≤ l.length) (hl : l.length ≤ 1048576) (hs : ∀ b ∈ l, b.text.size ≤ 1048576) :
    Calls Tryd.prog 151 #[.slice A l.length c, .int .i64 i] w (PostAddr w l (addrR okAddr (l.drop i))) := by
  generalize hR : addrR okAddr (l.drop i) = R
  unfold addrR at hR
  have HP := fun W hr => plainAt_calls A c l i W hr hi (by omega) hs
  have hpr := fun a r => plain_rest (ok := okAddr) (l := l) (i := i) (a := a) (r := r)
  generalize plainR okAddr (l.drop i) = P at *
  have HP := Lib.hid HP
  cases P with
  | some x =>
    obtain ⟨a, r⟩ := x
    simp only at hR
    subst hR
    obtain ⟨h1, hrr⟩ := hpr a r rfl
    clear hpr
    go_enter Tryd.func151, Tryd.ntmps151
    go_wp2_with fail
    refine (HP.out _ (Kd.C_alloc hr _)).mono ?_
    intro e w1 hw1
    obtain ⟨rfl, hb1⟩ : _ ∧ _ := hw1
    have k1 := (Blk.made w #[.string ⟨#[]⟩, .string ⟨#[]⟩] 49).below hb1 (by simp)
    have z1 := hb1.size
    simp at z1
    have q0 := k1.at 0 _ rfl
    have q1 := k1.at 1 _ rfl
    have p0 := k1.free 0 _ rfl
    have p1 := k1.free 1 _ rfl
    have zl : w.heap.size < w1.heap.size := by omega
    have zn : ¬ w1.heap.size = w.heap.size := by omega
    go_wp2_with fail
    refine bodyPost_ret (v := .tuple #[.agg #[.string a.loc, .string a.dom], .int .i64 ((i : Int) + 3)]) (by simp [results, Tryd.results151, go_sem, *]) rfl ?_
    exact ⟨i + 3, by simp, by omega, hrr, (by repeat (first | exact Below.refl _ _ | apply below_alloc | apply pw_below_drewN | apply below_drew1 | (refine Below.setCell ?_ (by first | (simp; done) | (simp; omega) | omega) _) | (refine below_then ?_ (by first | (simp; done) | (simp; omega) | omega) hb1)))⟩
  | none =>
    simp only at hR
    clear hpr
    go_enter Tryd.func151, Tryd.ntmps151
    go_wp2_with fail
    refine (HP.out _ (Kd.C_alloc hr _)).mono ?_
    intro e w1 hw1
    obtain ⟨rfl, hb1⟩ : _ ∧ _ := hw1
    have z1 := hb1.size
    simp at z1
    have kR := ((Blk.made w #[.string ⟨#[]⟩, .string ⟨#[]⟩] 49).below hb1 (by simp)).alloc (.cells #[.string ⟨#[]⟩, .string ⟨#[]⟩] 49)
    have kT := Blk.made w1 #[.string ⟨#[]⟩, .string ⟨#[]⟩] 49
    have bb : Below w.heap.size w (w1.alloc (.cells #[.string ⟨#[]⟩, .string ⟨#[]⟩] 49)) := (by repeat (first | exact Below.refl _ _ | apply below_alloc | apply pw_below_drewN | apply below_drew1 | (refine Below.setCell ?_ (by first | (simp; done) | (simp; omega) | omega) _) | (refine below_then ?_ (by first | (simp; done) | (simp; omega) | omega) hb1)))
    have hrW := Kd.C_below hr bb
    have zl : w.heap.size < w1.heap.size := by omega
    go_wp2_with fail
    generalize w1.alloc (.cells #[.string ⟨#[]⟩, .string ⟨#[]⟩] 49) = W at *
    clear hb1 z1 HP
    generalize w1.heap.size = b6 at *
    clear w1
    go_loopw [1] (fun v wr => ∃ k : Nat, k ≤ l.length ∧ v = .int .i64 k ∧ angleR okAddr (l.drop k) = R ∧ W = wr) (fun v _ => l.length - (intOf v).toNat)
    case atStart => exact ⟨i, hi, rfl, hR, rfl⟩
    case round =>
      clear hR
      obtain ⟨k, hk, rfl, hR, rfl⟩ := hrel
      have f0 := kR.at 0 _ rfl
      have f1 := kR.at 1 _ rfl
      have f2 := kR.free 0 _ rfl
      have f3 := kR.free 1 _ rfl
      by_cases hlt : k < l.length
      · obtain ⟨ad, e1, x0, xj⟩ := flat_at hrW k hlt
        have p0 := x0 _ rfl; have p1 := xj 1 _ (by decide) rfl; have p2 := xj 2 _ (by decide) rfl; have p3 := xj 3 _ (by decide) rfl
        clear x0 xj
        rw [List.drop_eq_getElem_cons hlt, angleR] at hR
        have i0 : (0 : Int) ≤ (k : Int) := by omega
        have i1 : (k : Int) < (l.length : Int) := by omega
        generalize l[k] = b0 at *
        obtain ⟨t0, u0, v0, a0⟩ := b0
        simp only at p0 p1 p2 p3 hR
        by_cases h1 : u0 = true ∨ v0 = true
        · rw [if_pos h1] at hR
          have hR := Lib.hid hR
          subst e1
          rcases (by cases u0 <;> simp_all : u0 = true ∨ (u0 = false ∧ v0 = true)) with rfl | ⟨rfl, rfl⟩
          all_goals
            clear h1
            go_wp2_with fail
            go_roundw
            case rel => exact ⟨k + 1, hlt, by go_num, hR.out, by trivial⟩
            case measure => simp [intOf]; omega
        · rw [if_neg h1] at hR
          obtain ⟨rfl, rfl⟩ : u0 = false ∧ v0 = false := by cases u0 <;> cases v0 <;> simp_all
          clear h1
          by_cases h60 : t0 = ⟨#[60]⟩
          · rw [if_pos h60] at hR
            have q60 := lit_yes (l := [60]) h60
            have HP := fun W hr => plainAt_calls A c l (k + 1) W hr hlt (by omega) hs
            have hpr := fun a r => plain_rest (ok := okAddr) (l := l) (i := k + 1) (a := a) (r := r)
            clear h60
            subst e1
            have had : ad.block < w.heap.size := by
              obtain ⟨ad', e1, y0, _⟩ := flat_at hr k hlt
              obtain rfl := Option.some.inj e1
              have := lt_of_cell' (y0 _ rfl)
              rwa [add_block] at this
            generalize plainR okAddr (l.drop (k + 1)) = P2 at *
            have HP := Lib.hid HP
            cases P2 with
            | none =>
              simp only at hR
              subst hR
              go_wp2_with fail
              refine (HP.out _ hrW).mono ?_
              intro e w2 hw2
              obtain ⟨rfl, hb2⟩ : _ ∧ _ := hw2
              have kR2 := kR.below hb2 kR.lt
              have kT2 := kT.below hb2 kT.lt
              have bb2 := bb.trans (hb2.mono bb.size)
              have g0 := kR2.at 0 _ rfl
              have g1 := kR2.at 1 _ rfl
              have g2 := kR2.free 0 _ rfl
              have g3 := kR2.free 1 _ rfl
              have g4 := kT2.at 0 _ rfl
              have g5 := kT2.at 1 _ rfl
              have g6 := kT2.free 0 _ rfl
              have g7 := kT2.free 1 _ rfl
              have n1 : ¬ b6 = w.heap.size := by omega
              have n2 : ¬ w.heap.size = b6 := by omega
              go_wp2_with fail
              refine bodyPost_ret (v := .tuple #[.agg #[.string ⟨#[]⟩, .string ⟨#[]⟩], .int .i64 (-1)]) (by simp [results, Tryd.results151, go_sem, *]) rfl ?_
              exact ⟨rfl, (by repeat (first | exact Below.refl _ _ | apply below_alloc | apply pw_below_drewN | apply below_drew1 | (refine Below.setCell ?_ (by first | (simp; done) | (simp; omega) | omega) _) | exact bb2))⟩
            | some x =>
              obtain ⟨a, rest⟩ := x
              obtain ⟨hk3, hrest⟩ := hpr a rest rfl
              clear hpr
              have hhead : (l.drop (k + 1)).head? = some l[k + 1] := by rw [List.drop_eq_getElem_cons (by omega : k + 1 < l.length)]; rfl
              rw [hhead] at hR
              clear hhead
              obtain ⟨ad1, e1, y0, yj⟩ := flat_at hrW (k + 1) (by omega)
              obtain rfl := Option.some.inj e1
              have y3 := yj 3 _ (by decide) rfl
              clear y0 yj
              have i3 : (k : Int) + 1 < (l.length : Int) := by omega
              by_cases hk4 : k + 1 + 4 - 1 < l.length
              · obtain ⟨ad2, e2, v0_, vj⟩ := flat_at hrW (k + 4) (by omega)
                obtain rfl := Option.some.inj e2
                have v0 := v0_ _ rfl
                have v3 := vj 3 _ (by decide) rfl
                clear v0_ vj
                rw [show k + 1 + 3 = k + 4 by omega, List.drop_eq_getElem_cons (by omega : k + 4 < l.length)] at hrest
                subst hrest
                simp only at hR
                have i4 : (k : Int) + 4 < (l.length : Int) := by omega
                generalize l[k + 1] = b1 at *
                generalize l[k + 4] = g at *
                obtain ⟨t1, u1, w1_, a1⟩ := b1
                obtain ⟨tg, ug, vg, ag⟩ := g
                simp only at y3 v0 v3 hR
                have hR := Lib.hid hR
                cases a1 with
                | true =>
                  obtain rfl : none = R := by simpa using hR.out
                  go_wp2_with fail
                  refine (HP.out _ hrW).mono ?_
                  intro e w2 hw2
                  obtain ⟨rfl, hb2⟩ : _ ∧ _ := hw2
                  have kR2 := kR.below hb2 kR.lt
                  have kT2 := kT.below hb2 kT.lt
                  have bb2 := bb.trans (hb2.mono bb.size)
                  have g0 := kR2.at 0 _ rfl
                  have g1 := kR2.at 1 _ rfl
                  have g2 := kR2.free 0 _ rfl
                  have g3 := kR2.free 1 _ rfl
                  have g4 := kT2.at 0 _ rfl
                  have g5 := kT2.at 1 _ rfl
                  have g6 := kT2.free 0 _ rfl
                  have g7 := kT2.free 1 _ rfl
                  have n1 : ¬ b6 = w.heap.size := by omega
                  have n2 : ¬ w.heap.size = b6 := by omega
                  have y3' := cell_other' (c := b6) (j := 1) (cell_other' (c := b6) (j := 0) ((hb2.cell (lt_of_cell' y3)).trans y3) (by simp [add_block]; omega) (.string a.loc)) (by simp [add_block]; omega) (.string a.dom)
                  try have v0' := cell_other' (c := b6) (j := 1) (cell_other' (c := b6) (j := 0) ((hb2.cell (lt_of_cell' v0)).trans v0) (by simp [add_block]; omega) (.string a.loc)) (by simp [add_block]; omega) (.string a.dom)
                  try have v3' := cell_other' (c := b6) (j := 1) (cell_other' (c := b6) (j := 0) ((hb2.cell (lt_of_cell' v3)).trans v3) (by simp [add_block]; omega) (.string a.loc)) (by simp [add_block]; omega) (.string a.dom)
                  go_wp2_with fail
                  refine bodyPost_ret (v := .tuple #[.agg #[.string ⟨#[]⟩, .string ⟨#[]⟩], .int .i64 (-1)]) (by simp [results, Tryd.results151, go_sem, *]) rfl ?_
                  exact ⟨rfl, (by repeat (first | exact Below.refl _ _ | apply below_alloc | apply pw_below_drewN | apply below_drew1 | (refine Below.setCell ?_ (by first | (simp; done) | (simp; omega) | omega) _) | exact bb2))⟩
                | false =>
                  by_cases ht : tg = ⟨#[62]⟩
                  · have q62 := lit_yes (l := [62]) ht
                    cases ag with
                    | true =>
                      obtain rfl : none = R := by simpa using hR.out
                      clear ht
                      go_wp2_with fail
                      refine (HP.out _ hrW).mono ?_
                      intro e w2 hw2
                      obtain ⟨rfl, hb2⟩ : _ ∧ _ := hw2
                      have kR2 := kR.below hb2 kR.lt
                      have kT2 := kT.below hb2 kT.lt
                      have bb2 := bb.trans (hb2.mono bb.size)
                      have g0 := kR2.at 0 _ rfl
                      have g1 := kR2.at 1 _ rfl
                      have g2 := kR2.free 0 _ rfl
                      have g3 := kR2.free 1 _ rfl
                      have g4 := kT2.at 0 _ rfl
                      have g5 := kT2.at 1 _ rfl
                      have g6 := kT2.free 0 _ rfl
                      have g7 := kT2.free 1 _ rfl
                      have n1 : ¬ b6 = w.heap.size := by omega
                      have n2 : ¬ w.heap.size = b6 := by omega
                      have y3' := cell_other' (c := b6) (j := 1) (cell_other' (c := b6) (j := 0) ((hb2.cell (lt_of_cell' y3)).trans y3) (by simp [add_block]; omega) (.string a.loc)) (by simp [add_block]; omega) (.string a.dom)
                      try have v0' := cell_other' (c := b6) (j := 1) (cell_other' (c := b6) (j := 0) ((hb2.cell (lt_of_cell' v0)).trans v0) (by simp [add_block]; omega) (.string a.loc)) (by simp [add_block]; omega) (.string a.dom)
                      try have v3' := cell_other' (c := b6) (j := 1) (cell_other' (c := b6) (j := 0) ((hb2.cell (lt_of_cell' v3)).trans v3) (by simp [add_block]; omega) (.string a.loc)) (by simp [add_block]; omega) (.string a.dom)
                      go_wp2_with fail
                      refine bodyPost_ret (v := .tuple #[.agg #[.string ⟨#[]⟩, .string ⟨#[]⟩], .int .i64 (-1)]) (by simp [results, Tryd.results151, go_sem, *]) rfl ?_
                      exact ⟨rfl, (by repeat (first | exact Below.refl _ _ | apply below_alloc | apply pw_below_drewN | apply below_drew1 | (refine Below.setCell ?_ (by first | (simp; done) | (simp; omega) | omega) _) | exact bb2))⟩
                    | false =>
                      obtain rfl : some (a, l.drop (k + 5)) = R := by simpa [ht] using hR.out
                      clear ht
                      go_wp2_with fail
                      refine (HP.out _ hrW).mono ?_
                      intro e w2 hw2
                      obtain ⟨rfl, hb2⟩ : _ ∧ _ := hw2
                      have kR2 := kR.below hb2 kR.lt
                      have kT2 := kT.below hb2 kT.lt
                      have bb2 := bb.trans (hb2.mono bb.size)
                      have g0 := kR2.at 0 _ rfl
                      have g1 := kR2.at 1 _ rfl
                      have g2 := kR2.free 0 _ rfl
                      have g3 := kR2.free 1 _ rfl
                      have g4 := kT2.at 0 _ rfl
                      have g5 := kT2.at 1 _ rfl
                      have g6 := kT2.free 0 _ rfl
                      have g7 := kT2.free 1 _ rfl
                      have n1 : ¬ b6 = w.heap.size := by omega
                      have n2 : ¬ w.heap.size = b6 := by omega
                      have y3' := cell_other' (c := b6) (j := 1) (cell_other' (c := b6) (j := 0) ((hb2.cell (lt_of_cell' y3)).trans y3) (by simp [add_block]; omega) (.string a.loc)) (by simp [add_block]; omega) (.string a.dom)
                      try have v0' := cell_other' (c := b6) (j := 1) (cell_other' (c := b6) (j := 0) ((hb2.cell (lt_of_cell' v0)).trans v0) (by simp [add_block]; omega) (.string a.loc)) (by simp [add_block]; omega) (.string a.dom)
                      try have v3' := cell_other' (c := b6) (j := 1) (cell_other' (c := b6) (j := 0) ((hb2.cell (lt_of_cell' v3)).trans v3) (by simp [add_block]; omega) (.string a.loc)) (by simp [add_block]; omega) (.string a.dom)
                      go_wp2_with fail
                      refine bodyPost_ret (v := .tuple #[.agg #[.string a.loc, .string a.dom], .int .i64 ((k : Int) + 5)]) (by simp [results, Tryd.results151, go_sem, *]) rfl ?_
                      exact ⟨k + 5, by simp, by omega, rfl, (by repeat (first | exact Below.refl _ _ | apply below_alloc | apply pw_below_drewN | apply below_drew1 | (refine Below.setCell ?_ (by first | (simp; done) | (simp; omega) | omega) _) | exact bb2))⟩
                  · have q62 := lit_no (l := [62]) ht
                    obtain rfl : none = R := by simpa [ht] using hR.out
                    clear ht
                    go_wp2_with fail
                    refine (HP.out _ hrW).mono ?_
                    intro e w2 hw2
                    obtain ⟨rfl, hb2⟩ : _ ∧ _ := hw2
                    have kR2 := kR.below hb2 kR.lt
                    have kT2 := kT.below hb2 kT.lt
                    have bb2 := bb.trans (hb2.mono bb.size)
                    have g0 := kR2.at 0 _ rfl
                    have g1 := kR2.at 1 _ rfl
                    have g2 := kR2.free 0 _ rfl
                    have g3 := kR2.free 1 _ rfl
                    have g4 := kT2.at 0 _ rfl
                    have g5 := kT2.at 1 _ rfl
                    have g6 := kT2.free 0 _ rfl
                    have g7 := kT2.free 1 _ rfl
                    have n1 : ¬ b6 = w.heap.size := by omega
                    have n2 : ¬ w.heap.size = b6 := by omega
                    have y3' := cell_other' (c := b6) (j := 1) (cell_other' (c := b6) (j := 0) ((hb2.cell (lt_of_cell' y3)).trans y3) (by simp [add_block]; omega) (.string a.loc)) (by simp [add_block]; omega) (.string a.dom)
                    try have v0' := cell_other' (c := b6) (j := 1) (cell_other' (c := b6) (j := 0) ((hb2.cell (lt_of_cell' v0)).trans v0) (by simp [add_block]; omega) (.string a.loc)) (by simp [add_block]; omega) (.string a.dom)
                    try have v3' := cell_other' (c := b6) (j := 1) (cell_other' (c := b6) (j := 0) ((hb2.cell (lt_of_cell' v3)).trans v3) (by simp [add_block]; omega) (.string a.loc)) (by simp [add_block]; omega) (.string a.dom)
                    go_wp2_with fail
                    refine bodyPost_ret (v := .tuple #[.agg #[.string ⟨#[]⟩, .string ⟨#[]⟩], .int .i64 (-1)]) (by simp [results, Tryd.results151, go_sem, *]) rfl ?_
                    exact ⟨rfl, (by repeat (first | exact Below.refl _ _ | apply below_alloc | apply pw_below_drewN | apply below_drew1 | (refine Below.setCell ?_ (by first | (simp; done) | (simp; omega) | omega) _) | exact bb2))⟩
              · rw [List.drop_eq_nil_of_le (by omega)] at hrest
                subst hrest
                simp only at hR
                subst hR
                have i4 : (l.length : Int) ≤ (k : Int) + 4 := by omega
                generalize l[k + 1] = b1 at *
                obtain ⟨t1, u1, w1_, a1⟩ := b1
                simp only at y3
                cases a1 with
                | true =>
                  go_wp2_with fail
                  refine (HP.out _ hrW).mono ?_
                  intro e w2 hw2
                  obtain ⟨rfl, hb2⟩ : _ ∧ _ := hw2
                  have kR2 := kR.below hb2 kR.lt
                  have kT2 := kT.below hb2 kT.lt
                  have bb2 := bb.trans (hb2.mono bb.size)
                  have g0 := kR2.at 0 _ rfl
                  have g1 := kR2.at 1 _ rfl
                  have g2 := kR2.free 0 _ rfl
                  have g3 := kR2.free 1 _ rfl
                  have g4 := kT2.at 0 _ rfl
                  have g5 := kT2.at 1 _ rfl
                  have g6 := kT2.free 0 _ rfl
                  have g7 := kT2.free 1 _ rfl
                  have n1 : ¬ b6 = w.heap.size := by omega
                  have n2 : ¬ w.heap.size = b6 := by omega
                  have y3' := cell_other' (c := b6) (j := 1) (cell_other' (c := b6) (j := 0) ((hb2.cell (lt_of_cell' y3)).trans y3) (by simp [add_block]; omega) (.string a.loc)) (by simp [add_block]; omega) (.string a.dom)
                  try have v0' := cell_other' (c := b6) (j := 1) (cell_other' (c := b6) (j := 0) ((hb2.cell (lt_of_cell' v0)).trans v0) (by simp [add_block]; omega) (.string a.loc)) (by simp [add_block]; omega) (.string a.dom)
                  try have v3' := cell_other' (c := b6) (j := 1) (cell_other' (c := b6) (j := 0) ((hb2.cell (lt_of_cell' v3)).trans v3) (by simp [add_block]; omega) (.string a.loc)) (by simp [add_block]; omega) (.string a.dom)
                  go_wp2_with fail
                  refine bodyPost_ret (v := .tuple #[.agg #[.string ⟨#[]⟩, .string ⟨#[]⟩], .int .i64 (-1)]) (by simp [results, Tryd.results151, go_sem, *]) rfl ?_
                  exact ⟨rfl, (by repeat (first | exact Below.refl _ _ | apply below_alloc | apply pw_below_drewN | apply below_drew1 | (refine Below.setCell ?_ (by first | (simp; done) | (simp; omega) | omega) _) | exact bb2))⟩
                | false =>
                  go_wp2_with fail
                  refine (HP.out _ hrW).mono ?_
                  intro e w2 hw2
                  obtain ⟨rfl, hb2⟩ : _ ∧ _ := hw2
                  have kR2 := kR.below hb2 kR.lt
                  have kT2 := kT.below hb2 kT.lt
                  have bb2 := bb.trans (hb2.mono bb.size)
                  have g0 := kR2.at 0 _ rfl
                  have g1 := kR2.at 1 _ rfl
                  have g2 := kR2.free 0 _ rfl
                  have g3 := kR2.free 1 _ rfl
                  have g4 := kT2.at 0 _ rfl
                  have g5 := kT2.at 1 _ rfl
                  have g6 := kT2.free 0 _ rfl
                  have g7 := kT2.free 1 _ rfl
                  have n1 : ¬ b6 = w.heap.size := by omega
                  have n2 : ¬ w.heap.size = b6 := by omega
                  have y3' := cell_other' (c := b6) (j := 1) (cell_other' (c := b6) (j := 0) ((hb2.cell (lt_of_cell' y3)).trans y3) (by simp [add_block]; omega) (.string a.loc)) (by simp [add_block]; omega) (.string a.dom)
                  try have v0' := cell_other' (c := b6) (j := 1) (cell_other' (c := b6) (j := 0) ((hb2.cell (lt_of_cell' v0)).trans v0) (by simp [add_block]; omega) (.string a.loc)) (by simp [add_block]; omega) (.string a.dom)
                  try have v3' := cell_other' (c := b6) (j := 1) (cell_other' (c := b6) (j := 0) ((hb2.cell (lt_of_cell' v3)).trans v3) (by simp [add_block]; omega) (.string a.loc)) (by simp [add_block]; omega) (.string a.dom)
                  go_wp2_with fail
                  refine bodyPost_ret (v := .tuple #[.agg #[.string ⟨#[]⟩, .string ⟨#[]⟩], .int .i64 (-1)]) (by simp [results, Tryd.results151, go_sem, *]) rfl ?_
                  exact ⟨rfl, (by repeat (first | exact Below.refl _ _ | apply below_alloc | apply pw_below_drewN | apply below_drew1 | (refine Below.setCell ?_ (by first | (simp; done) | (simp; omega) | omega) _) | exact bb2))⟩
          · rw [if_neg h60] at hR
            have q60 := lit_no (l := [60]) h60
            subst hR e1
            clear h60
            go_wp2_with fail
            refine bodyPost_ret (v := .tuple #[.agg #[.string ⟨#[]⟩, .string ⟨#[]⟩], .int .i64 (-1)]) (by simp [results, Tryd.results151, go_sem, *]) rfl ?_
            exact ⟨rfl, (by repeat (first | exact Below.refl _ _ | apply below_alloc | apply pw_below_drewN | apply below_drew1 | (refine Below.setCell ?_ (by first | (simp; done) | (simp; omega) | omega) _) | exact bb))⟩
      · obtain rfl : k = l.length := by omega
        rw [List.drop_eq_nil_of_le (Nat.le_refl _), angleR] at hR
        subst hR
        go_wp2_with fail
        refine bodyPost_ret (v := .tuple #[.agg #[.string ⟨#[]⟩, .string ⟨#[]⟩], .int .i64 (-1)]) (by simp [results, Tryd.results151, go_sem, *]) rfl ?_
        exact ⟨rfl, (by repeat (first | exact Below.refl _ _ | apply below_alloc | apply pw_below_drewN | apply below_drew1 | (refine Below.setCell ?_ (by first | (simp; done) | (simp; omega) | omega) _) | exact bb))⟩
end Go.Proofs.YtijdghplfhfpaaaDoor.H

/- Lists of addresses: the reference's listOf, ListOf; both sides' answers: the walks. -/
namespace Go.Proofs.YtijdghplfhfpaaaDoor.H
open Go.RowKit Go.Proofs.YtijdghplfhfpaaaDoorW.PrintWords Go.Proofs.YtijdghplfhfpaaaDoorW.PrintLast Go.Proofs.YtijdghplfhfpaaaDoor.U
set_option linter.unusedVariables false
set_option linter.unusedSimpArgs false
theorem bits_size (s : ByteArray) : ∀ n i ap l, s.size - i ≤ n → i ≤ s.size → bitsP s i ap = some l → l.length ≤ s.size - i ∧ ∀ b ∈ l, b.text.size ≤ s.size := by
  intro n
  induction n with
  | zero =>
    intro i ap l h1 h2 h
    rw [bits_end s i ap (by omega)] at h
    cases h; simp
  | succ n ih =>
    intro i ap l h1 h2 h
    by_cases hlt : i < s.size
    · cases hb : blankB s[i].toNat with
      | true =>
        rw [bits_blank s i ap hlt hb] at h
        have := ih (i + 1) true l (by omega) hlt h
        exact ⟨by omega, this.2⟩
      | false =>
        cases hr : runB s[i].toNat with
        | true =>
          have hlt2 : i < spanEnd runB s i := by rw [spanEnd_yes runB hlt hr]; have := span_ge runB s (i + 1) (by omega); omega
          have hle := span_le runB s i h2
          rw [bits_run s i ap hlt2 h2] at h
          obtain ⟨l1, hl1, rfl⟩ := Option.map_eq_some_iff.1 h
          have := ih _ false l1 (by omega) hle hl1
          refine ⟨by simp; omega, fun b hb => ?_⟩
          rcases List.mem_cons.1 hb with rfl | hb
          · simp only; rw [ext_size hle]; omega
          · exact this.2 b hb
        | false =>
          by_cases hq : s[i].toNat = 34
          · rw [bits_quoted s i ap hlt hq] at h
            cases hk : qEnd s (i + 1) with
            | none => rw [hk] at h; cases h
            | some k =>
              rw [hk] at h
              simp only [Option.bind_some] at h
              obtain ⟨l1, hl1, rfl⟩ := Option.map_eq_some_iff.1 h
              have hgt := qEnd_gt s _ _ _ (Nat.le_refl _) hk
              have := ih k false l1 (by omega) hgt.2 hl1
              refine ⟨by simp; omega, fun b hb => ?_⟩
              rcases List.mem_cons.1 hb with rfl | hb
              · exact Nat.zero_le _
              · exact this.2 b hb
          · rw [bits_one s i ap hlt hb hr hq] at h
            obtain ⟨l1, hl1, rfl⟩ := Option.map_eq_some_iff.1 h
            have := ih (i + 1) false l1 (by omega) hlt hl1
            refine ⟨by simp; omega, fun b hb => ?_⟩
            rcases List.mem_cons.1 hb with rfl | hb
            · show 1 ≤ s.size; omega
            · exact this.2 b hb
    · rw [bits_end s i ap hlt] at h
      cases h; simp
theorem below_alloc' {B : Nat} {w w1 : World} (h : Below B w w1) (hB : B ≤ w1.heap.size) (o : Obj) : Below B w (w1.alloc o) := Below.alloc h hB o
/-- The reference's list, and whether it is in form. -/
def PostLo (w : World) (R : Option (List AAddress)) (e : Ending) (w' : World) : Prop :=
  match R with
  | some l => ∃ v : Value, e = .returned (.tuple #[v, .bool true]) ∧ Kd.R kAAddress 49 w' w.heap.size (fun _ => True) v l ∧ Below w.heap.size w w'
  | none => e = .returned (.tuple #[.slice none 0 0, .bool false]) ∧ Below w.heap.size w w'
set_option maxHeartbeats 4000000 in
set_option maxRecDepth 100000 in
theorem listOf_calls (s : ByteArray) (w : World) (hs : s.size ≤ 1048576) :
    Calls Tryd.prog 88 #[.string s] w (PostLo w (listP okAddr s 0)) := by
  rw [list_law okAddr_empty]
  have HB := fun w => bitsOf_calls s w hs
  have hbs := fun l => bits_size s _ 0 false l (Nat.le_refl _) (Nat.zero_le _)
  generalize bitsP s 0 false = B at *
  have HB := Lib.hid HB
  cases B with
  | none =>
    clear hbs
    simp only [Option.bind_none]
    go_enter Tryd.func88, Tryd.ntmps88
    go_wp2_with fail
    refine (HB.out _).mono ?_
    intro e w1 hw1
    obtain ⟨v, rfl, hb1⟩ : ∃ v, _ ∧ _ := hw1
    go_wp2_with fail
    go_ret2
    exact ⟨rfl, hb1⟩
  | some l =>
    obtain ⟨hl, htx⟩ := hbs l rfl
    have htx : ∀ b ∈ l, b.text.size ≤ 1048576 := fun b hb => by have := htx b hb; omega
    clear hbs
    simp only [Option.bind_some]
    generalize hR : listR okAddr l = R
    go_enter Tryd.func88, Tryd.ntmps88
    go_wp2_with fail
    refine (HB.out _).mono ?_
    intro e w1 hw1
    obtain ⟨v, rfl, hRow, hb1⟩ : ∃ v, _ ∧ _ ∧ _ := hw1
    obtain ⟨A, c, rfl, hlc, hrl⟩ := C_of hRow
    clear hRow HB
    have zb := hb1.size
    go_wp2_with fail
    go_loopw [6, 7] (fun v vi wr => ∃ (k : Nat) (acc : List AAddress), k ≤ l.length ∧ vi = .int .i64 k ∧ Kd.R kAAddress 49 wr w1.heap.size (fun _ => True) v acc ∧ (listR okAddr (l.drop k)).map (acc ++ ·) = R ∧ acc.length ≤ k ∧ Below w1.heap.size w1 wr) (fun _ vi _ => l.length - (intOf vi).toNat)
    case atStart => exact ⟨0, [], Nat.zero_le _, rfl, Kd.R_nil _ _ _ _ _, by rw [List.drop_zero, hR]; cases R <;> rfl, Nat.le_refl _, Below.refl _ _⟩
    case round =>
      clear hR
      obtain ⟨k, acc, hk, rfl, hRow, hR, hacc, hB⟩ := hrel
      obtain ⟨A0, cap0, rfl⟩ := Kd.R_slice hRow
      have HA := Lib.hid (fun W hr => addressAt_calls A c l k W hr hk (by omega) htx)
      rw [listR] at hR
      have hlen := fun a r => addrR_len (ok := okAddr) (l := l.drop k) (r := r) (a := a)
      have hrw := Kd.C_below hrl hB
      have hbw : Below w.heap.size w wr := hb1.trans (hB.mono zb)
      have zw := hB.size
      generalize addrR okAddr (l.drop k) = AA at *
      cases AA with
      | none =>
        simp only [Option.map_none] at hR
        subst hR
        go_wp2_with fail
        refine (HA.out _ hrw).mono ?_
        intro e w2 hw2
        obtain ⟨rfl, hb2⟩ : _ ∧ _ := hw2
        go_wp2_with fail
        go_ret2
        exact ⟨rfl, (by repeat (first | exact Below.refl _ _ | apply below_alloc | apply pw_below_drewN | apply below_drew1 | (refine Below.setCell ?_ (by first | (simp; done) | (simp; omega) | omega) _) | (refine below_then ?_ (by first | (simp; done) | (simp; omega) | omega) hb2) | exact hbw))⟩
      | some x =>
        obtain ⟨a, r⟩ := x
        have hlen := hlen a r rfl
        go_wp2_with fail
        refine (HA.out _ hrw).mono ?_
        intro e w2 hw2
        obtain ⟨d, rfl, hd, rfl, hb2⟩ : ∃ d, _ ∧ _ ∧ _ ∧ _ := hw2
        have hRow2 := Kd.R_alloc (Kd.R_below hRow hb2) (.cells #[.string a.loc, .string a.dom] 49)
        have z2 := hb2.size
        have hbw2 : Below w.heap.size w w2 := hbw.trans (hb2.mono (by omega))
        have hbr2 : Below w1.heap.size w1 w2 := hB.trans (hb2.mono zw)
        rw [List.length_drop, List.length_drop] at hlen
        have e0 : decide ((d : Int) < 0) = false := by rw [decide_eq_false_iff_not]; omega
        by_cases hdl : d = l.length
        · subst hdl
          rw [List.drop_eq_nil_of_le (Nat.le_refl _)] at hR
          simp only [Option.map_some] at hR
          subst hR
          go_wp2_with (at_builtin; refine snoc_list rowAAddress w1.heap.size rfl _ _ rfl (.slice A0 acc.length cap0) acc a [.string a.loc, .string a.dom] rfl (by simp [Act.eval]) rfl hRow2 (by first | (simp; done) | (simp; omega) | omega) (by omega) ?_; intro v1 w3 hR1 hb3 hg3)
          go_ret2
          exact ⟨_, rfl, Kd.R_lower hR1 zb, (below_alloc' hbw2 (by omega) _).trans (hb3.mono zb)⟩
        · have hdlt : d < l.length := by omega
          obtain ⟨ad, e1, x0, xj⟩ := flat_at hrl d hdlt
          subst e1
          have p0 := x0 _ rfl
          have pb := lt_of_cell' p0
          clear x0 xj
          have p2 := (hbr2.cell pb).trans p0
          rw [List.drop_eq_getElem_cons hdlt] at hR
          simp only at hR
          have e1 : ((d : Int) == l.length) = false := by rw [beq_eq_false_iff_ne]; omega
          have i0 : (0 : Int) ≤ (d : Int) := by omega
          have i1 : (d : Int) < (l.length : Int) := by omega
          generalize l[d] = b0 at *
          obtain ⟨t0, u0, v0, a0⟩ := b0
          simp only at p0 p2 hR
          by_cases h44 : t0 = ⟨#[44]⟩
          · rw [if_pos ⟨h44, by rw [List.length_drop, List.length_drop]; omega⟩] at hR
            have q44 := lit_yes (l := [44]) h44
            have hR := Lib.hid hR
            clear h44
            go_wp2_with (at_builtin; refine snoc_list rowAAddress w1.heap.size rfl _ _ rfl (.slice A0 acc.length cap0) acc a [.string a.loc, .string a.dom] rfl (by simp [Act.eval]) rfl hRow2 (by first | (simp; done) | (simp; omega) | omega) (by omega) ?_; intro v1 w3 hR1 hb3 hg3; have p3 := (hb3.cell pb).trans (cell_alloc' p2 (.cells #[.string a.loc, .string a.dom] 49)))
            go_roundw
            case rel =>
              refine ⟨d + 1, acc ++ [a], hdlt, by go_num, hR1, ?_, by simp; omega, (below_alloc' hbr2 (by omega) _).trans hb3⟩
              rw [← hR.out]
              cases listR okAddr (l.drop (d + 1)) <;> simp
            case measure => simp [intOf]; omega
          · rw [if_neg (fun h => h44 h.1)] at hR
            simp only [Option.map_none] at hR
            subst hR
            have q44 := lit_no (l := [44]) h44
            clear h44
            go_wp2_with (at_builtin; refine snoc_list rowAAddress w1.heap.size rfl _ _ rfl (.slice A0 acc.length cap0) acc a [.string a.loc, .string a.dom] rfl (by simp [Act.eval]) rfl hRow2 (by first | (simp; done) | (simp; omega) | omega) (by omega) ?_; intro v1 w3 hR1 hb3 hg3; have p3 := (hb3.cell pb).trans (cell_alloc' p2 (.cells #[.string a.loc, .string a.dom] 49)))
            go_ret2
            exact ⟨rfl, (below_alloc' hbw2 (by omega) _).trans (hb3.mono zb)⟩
end Go.Proofs.YtijdghplfhfpaaaDoor.H

/- Entries: the walk of the reference's EntryFault. -/
namespace Go.Proofs.YtijdghplfhfpaaaDoor.H
open Go.RowKit Go.Proofs.YtijdghplfhfpaaaDoorW.PrintWords Go.Proofs.YtijdghplfhfpaaaDoorW.PrintLast Go.Proofs.YtijdghplfhfpaaaDoor.U
set_option linter.unusedVariables false
set_option linter.unusedSimpArgs false
theorem spool_one {s : ByteArray} {l : List AAddress} (hs : s.size ≤ 100) (h : listP okAddr s 0 = some l) : spoolFault s = if l.length = 1 then 0 else 3 := by
  have hv : listV s = listRes (some l) := by rw [listV, if_neg (by omega), h]
  rw [spoolFault, hv]
  by_cases h1 : l.length = 1
  · rw [if_pos h1, listRes, if_neg (show ¬ 20 < l.length by omega), if_pos ⟨rfl, h1, hs⟩]
  · rw [if_neg h1, listRes]
    by_cases h2 : 20 < l.length
    · rw [if_pos h2, if_neg (fun h => by cases h.1)]
    · rw [if_neg h2, if_neg (fun h => h1 h.2.1)]
theorem spool_none {s : ByteArray} (h : listP okAddr s 0 = none) : spoolFault s = 3 := by
  rw [spoolFault, if_neg]
  intro hh
  have := hh.1
  rw [listV] at this
  split at this
  · cases this
  · rw [h, listRes] at this; cases this
theorem spool_long {s : ByteArray} (h : 100 < s.size) : spoolFault s = 3 := by
  rw [spoolFault, if_neg (fun h2 => by omega)]
theorem eqb_form {k u f u2 f2 : Int} {bx t x bx2 t2 x2 : ByteArray} : eqbAEntry ⟨k, bx, u, f, t, x⟩ ⟨k, bx2, u2, f2, t2, x2⟩ = true ↔ bx = bx2 ∧ u = u2 ∧ f = f2 ∧ t = t2 ∧ x = x2 := by
  rw [eqbAEntry_iff]; simp
theorem eqb_not {k u f u2 f2 : Int} {bx t x bx2 t2 x2 : ByteArray} (h : ¬ (bx = bx2 ∧ u = u2 ∧ f = f2 ∧ t = t2 ∧ x = x2)) : eqbAEntry ⟨k, bx, u, f, t, x⟩ ⟨k, bx2, u2, f2, t2, x2⟩ = false := by
  rw [← Bool.not_eq_true, eqb_form]; exact h
set_option maxHeartbeats 8000000 in
set_option maxRecDepth 100000 in
theorem fault_1 (bx : ByteArray) (u f : Int) (to_ tx : ByteArray) (w : World) (hb : bx.size ≤ 1048576) (ht : to_.size ≤ 1048576) (hx : tx.size ≤ 1048576) :
    Calls Tryd.prog 53 #[.agg #[.int .i64 1, .string bx, .int .i64 u, .int .i64 f, .string to_, .string tx]] w fun e w' => e = .returned (.int .i64 (entryFault ⟨1, bx, u, f, to_, tx⟩)) ∧ Below w.heap.size w w' := by
  have hk : ¬ ((⟨1, bx, u, f, to_, tx⟩ : AEntry).kind < 1 ∨ 6 < (⟨1, bx, u, f, to_, tx⟩ : AEntry).kind) := by show ¬ ((1 : Int) < 1 ∨ 6 < (1 : Int)); omega
  have hbare : bareE ⟨1, bx, u, f, to_, tx⟩ = (⟨1, bx, 0, 0, ⟨#[]⟩, ⟨#[]⟩⟩ : AEntry) := rfl
  have h3 := fun h => ef_form (x := ⟨1, bx, u, f, to_, tx⟩) hk h
  have h6 := fun h h2 => ef_range (x := ⟨1, bx, u, f, to_, tx⟩) hk h h2
  have h1 := fun h h2 h3 => ef_size (x := ⟨1, bx, u, f, to_, tx⟩) hk h h2 h3
  have h0 := fun h h2 h3 => ef_tail (x := ⟨1, bx, u, f, to_, tx⟩) hk h h2 h3
  rw [hbare] at h3 h6 h1 h0
  simp only at h6 h1 h0
  generalize entryFault ⟨1, bx, u, f, to_, tx⟩ = r at *
  clear hbare hk
  by_cases hc : to_ = (⟨#[]⟩ : ByteArray)
  · subst hc
    by_cases hc : tx = (⟨#[]⟩ : ByteArray)
    · subst hc
      by_cases hc : u = 0
      · subst hc
        by_cases hc : f = 0
        · subst hc
          have hq : eqbAEntry (⟨1, bx, 0, 0, ⟨#[]⟩, ⟨#[]⟩⟩ : AEntry) (⟨1, bx, 0, 0, ⟨#[]⟩, ⟨#[]⟩⟩ : AEntry) = true := eqbAEntry_self _
          replace h6 := h6 hq
          replace h1 := h1 hq
          replace h0 := h0 hq
          clear h3 hq
          rcases (by omega : (0 : Int) < 0 ∨ (0 ≤ (0 : Int) ∧ 31 < (0 : Int)) ∨ (0 ≤ (0 : Int) ∧ (0 : Int) ≤ 31 ∧ (0 : Int) < 0) ∨ (0 ≤ (0 : Int) ∧ (0 : Int) ≤ 31 ∧ 0 ≤ (0 : Int) ∧ 1048576 < (0 : Int)) ∨ (0 ≤ (0 : Int) ∧ (0 : Int) ≤ 31 ∧ 0 ≤ (0 : Int) ∧ (0 : Int) ≤ 1048576)) with g1 | ⟨g1, g2⟩ | ⟨g1, g2, g3⟩ | ⟨g1, g2, g3, g4⟩ | ⟨g1, g2, g3, g4⟩
          · first | (exfalso; omega) | (obtain rfl := h6 (by omega); clear h6 h1 h0; go_enter Tryd.func53, Tryd.ntmps53; go_wp2_with (go_at_call 52; first | (refine (in_yes _ _ _ _ (by omega) (by omega)).mono ?_; rintro e w' ⟨rfl, rfl⟩) | (refine (in_no _ _ _ _ (by omega)).mono ?_; rintro e w' ⟨rfl, rfl⟩)); go_ret; exact ⟨(by first | rfl | (simp; done) | (simp [*]; done) | (rw [if_pos (by omega)]; first | rfl | (simp; done)) | (rw [if_neg (by omega)]; first | rfl | (simp; done)) | (simp; omega)), (by repeat (first | exact Below.refl _ _ | apply below_alloc | apply pw_below_drewN | apply below_drew1 | (refine Below.setCell ?_ (by first | (simp; done) | (simp; omega) | omega) _) ))⟩)
          · first | (exfalso; omega) | (obtain rfl := h6 (by omega); clear h6 h1 h0; go_enter Tryd.func53, Tryd.ntmps53; go_wp2_with (go_at_call 52; first | (refine (in_yes _ _ _ _ (by omega) (by omega)).mono ?_; rintro e w' ⟨rfl, rfl⟩) | (refine (in_no _ _ _ _ (by omega)).mono ?_; rintro e w' ⟨rfl, rfl⟩)); go_ret; exact ⟨(by first | rfl | (simp; done) | (simp [*]; done) | (rw [if_pos (by omega)]; first | rfl | (simp; done)) | (rw [if_neg (by omega)]; first | rfl | (simp; done)) | (simp; omega)), (by repeat (first | exact Below.refl _ _ | apply below_alloc | apply pw_below_drewN | apply below_drew1 | (refine Below.setCell ?_ (by first | (simp; done) | (simp; omega) | omega) _) ))⟩)
          · first | (exfalso; omega) | (obtain rfl := h6 (by omega); clear h6 h1 h0; go_enter Tryd.func53, Tryd.ntmps53; go_wp2_with (go_at_call 52; first | (refine (in_yes _ _ _ _ (by omega) (by omega)).mono ?_; rintro e w' ⟨rfl, rfl⟩) | (refine (in_no _ _ _ _ (by omega)).mono ?_; rintro e w' ⟨rfl, rfl⟩)); go_ret; exact ⟨(by first | rfl | (simp; done) | (simp [*]; done) | (rw [if_pos (by omega)]; first | rfl | (simp; done)) | (rw [if_neg (by omega)]; first | rfl | (simp; done)) | (simp; omega)), (by repeat (first | exact Below.refl _ _ | apply below_alloc | apply pw_below_drewN | apply below_drew1 | (refine Below.setCell ?_ (by first | (simp; done) | (simp; omega) | omega) _) ))⟩)
          · first | (exfalso; omega) | (obtain rfl := h6 (by omega); clear h6 h1 h0; go_enter Tryd.func53, Tryd.ntmps53; go_wp2_with (go_at_call 52; first | (refine (in_yes _ _ _ _ (by omega) (by omega)).mono ?_; rintro e w' ⟨rfl, rfl⟩) | (refine (in_no _ _ _ _ (by omega)).mono ?_; rintro e w' ⟨rfl, rfl⟩)); go_ret; exact ⟨(by first | rfl | (simp; done) | (simp [*]; done) | (rw [if_pos (by omega)]; first | rfl | (simp; done)) | (rw [if_neg (by omega)]; first | rfl | (simp; done)) | (simp; omega)), (by repeat (first | exact Below.refl _ _ | apply below_alloc | apply pw_below_drewN | apply below_drew1 | (refine Below.setCell ?_ (by first | (simp; done) | (simp; omega) | omega) _) ))⟩)
          · replace h0 := h0 (by omega) (by decide)
            clear h6 h1
            replace h0 : r = nameFault bx := by rw [h0, if_neg (by omega), nameTail]; simp only; split <;> simp_all
            have HN := fun w => boxName_calls bx w (by omega)
            generalize nameFault bx = nf at *
            subst h0
            have HN := Lib.hid HN
            by_cases hz : r = 0
            · subst hz
              go_enter Tryd.func53, Tryd.ntmps53
              go_wp2_with (first | (go_at_call 52; first | (refine (in_yes _ _ _ _ (by omega) (by omega)).mono ?_; rintro e w' ⟨rfl, rfl⟩) | (refine (in_no _ _ _ _ (by omega)).mono ?_; rintro e w' ⟨rfl, rfl⟩)) | (go_at_call 50; refine (HN.out _).mono ?_; rintro e w1 ⟨rfl, rfl⟩))
              go_ret; exact ⟨(by first | rfl | (simp; done) | (simp [*]; done) | (rw [if_pos (by omega)]; first | rfl | (simp; done)) | (rw [if_neg (by omega)]; first | rfl | (simp; done)) | (simp; omega)), (by repeat (first | exact Below.refl _ _ | apply below_alloc | apply pw_below_drewN | apply below_drew1 | (refine Below.setCell ?_ (by first | (simp; done) | (simp; omega) | omega) _) ))⟩
            · have e1 : (r == 0) = false := by rw [beq_eq_false_iff_ne]; exact hz
              clear hz
              go_enter Tryd.func53, Tryd.ntmps53
              go_wp2_with (first | (go_at_call 52; first | (refine (in_yes _ _ _ _ (by omega) (by omega)).mono ?_; rintro e w' ⟨rfl, rfl⟩) | (refine (in_no _ _ _ _ (by omega)).mono ?_; rintro e w' ⟨rfl, rfl⟩)) | (go_at_call 50; refine (HN.out _).mono ?_; rintro e w1 ⟨rfl, rfl⟩))
              go_ret; exact ⟨(by first | rfl | (simp; done) | (simp [*]; done) | (rw [if_pos (by omega)]; first | rfl | (simp; done)) | (rw [if_neg (by omega)]; first | rfl | (simp; done)) | (simp; omega)), (by repeat (first | exact Below.refl _ _ | apply below_alloc | apply pw_below_drewN | apply below_drew1 | (refine Below.setCell ?_ (by first | (simp; done) | (simp; omega) | omega) _) ))⟩
        · have q_ : (f != 0) = true := by rw [bne_iff_ne]; exact hc
          obtain rfl := h3 (eqb_not (fun h => by simp_all)); clear h3 h6 h1 h0; go_enter Tryd.func53, Tryd.ntmps53; go_wp2_with (go_at_call 52; first | (refine (in_yes _ _ _ _ (by omega) (by omega)).mono ?_; rintro e w' ⟨rfl, rfl⟩) | (refine (in_no _ _ _ _ (by omega)).mono ?_; rintro e w' ⟨rfl, rfl⟩)); go_ret; exact ⟨(by first | rfl | (simp; done) | (simp [*]; done) | (rw [if_pos (by omega)]; first | rfl | (simp; done)) | (rw [if_neg (by omega)]; first | rfl | (simp; done)) | (simp; omega)), (by repeat (first | exact Below.refl _ _ | apply below_alloc | apply pw_below_drewN | apply below_drew1 | (refine Below.setCell ?_ (by first | (simp; done) | (simp; omega) | omega) _) ))⟩
      · have q_ : (u != 0) = true := by rw [bne_iff_ne]; exact hc
        obtain rfl := h3 (eqb_not (fun h => by simp_all)); clear h3 h6 h1 h0; go_enter Tryd.func53, Tryd.ntmps53; go_wp2_with (go_at_call 52; first | (refine (in_yes _ _ _ _ (by omega) (by omega)).mono ?_; rintro e w' ⟨rfl, rfl⟩) | (refine (in_no _ _ _ _ (by omega)).mono ?_; rintro e w' ⟨rfl, rfl⟩)); go_ret; exact ⟨(by first | rfl | (simp; done) | (simp [*]; done) | (rw [if_pos (by omega)]; first | rfl | (simp; done)) | (rw [if_neg (by omega)]; first | rfl | (simp; done)) | (simp; omega)), (by repeat (first | exact Below.refl _ _ | apply below_alloc | apply pw_below_drewN | apply below_drew1 | (refine Below.setCell ?_ (by first | (simp; done) | (simp; omega) | omega) _) ))⟩
    · have q_ := lit_no (l := []) hc
      obtain rfl := h3 (eqb_not (fun h => by simp_all)); clear h3 h6 h1 h0; go_enter Tryd.func53, Tryd.ntmps53; go_wp2_with (go_at_call 52; first | (refine (in_yes _ _ _ _ (by omega) (by omega)).mono ?_; rintro e w' ⟨rfl, rfl⟩) | (refine (in_no _ _ _ _ (by omega)).mono ?_; rintro e w' ⟨rfl, rfl⟩)); go_ret; exact ⟨(by first | rfl | (simp; done) | (simp [*]; done) | (rw [if_pos (by omega)]; first | rfl | (simp; done)) | (rw [if_neg (by omega)]; first | rfl | (simp; done)) | (simp; omega)), (by repeat (first | exact Below.refl _ _ | apply below_alloc | apply pw_below_drewN | apply below_drew1 | (refine Below.setCell ?_ (by first | (simp; done) | (simp; omega) | omega) _) ))⟩
  · have q_ := lit_no (l := []) hc
    obtain rfl := h3 (eqb_not (fun h => by simp_all)); clear h3 h6 h1 h0; go_enter Tryd.func53, Tryd.ntmps53; go_wp2_with (go_at_call 52; first | (refine (in_yes _ _ _ _ (by omega) (by omega)).mono ?_; rintro e w' ⟨rfl, rfl⟩) | (refine (in_no _ _ _ _ (by omega)).mono ?_; rintro e w' ⟨rfl, rfl⟩)); go_ret; exact ⟨(by first | rfl | (simp; done) | (simp [*]; done) | (rw [if_pos (by omega)]; first | rfl | (simp; done)) | (rw [if_neg (by omega)]; first | rfl | (simp; done)) | (simp; omega)), (by repeat (first | exact Below.refl _ _ | apply below_alloc | apply pw_below_drewN | apply below_drew1 | (refine Below.setCell ?_ (by first | (simp; done) | (simp; omega) | omega) _) ))⟩
set_option maxHeartbeats 8000000 in
set_option maxRecDepth 100000 in
theorem fault_2 (bx : ByteArray) (u f : Int) (to_ tx : ByteArray) (w : World) (hb : bx.size ≤ 1048576) (ht : to_.size ≤ 1048576) (hx : tx.size ≤ 1048576) :
    Calls Tryd.prog 53 #[.agg #[.int .i64 2, .string bx, .int .i64 u, .int .i64 f, .string to_, .string tx]] w fun e w' => e = .returned (.int .i64 (entryFault ⟨2, bx, u, f, to_, tx⟩)) ∧ Below w.heap.size w w' := by
  have hk : ¬ ((⟨2, bx, u, f, to_, tx⟩ : AEntry).kind < 1 ∨ 6 < (⟨2, bx, u, f, to_, tx⟩ : AEntry).kind) := by show ¬ ((2 : Int) < 1 ∨ 6 < (2 : Int)); omega
  have hbare : bareE ⟨2, bx, u, f, to_, tx⟩ = (⟨2, bx, 0, f, ⟨#[]⟩, tx⟩ : AEntry) := rfl
  have h3 := fun h => ef_form (x := ⟨2, bx, u, f, to_, tx⟩) hk h
  have h6 := fun h h2 => ef_range (x := ⟨2, bx, u, f, to_, tx⟩) hk h h2
  have h1 := fun h h2 h3 => ef_size (x := ⟨2, bx, u, f, to_, tx⟩) hk h h2 h3
  have h0 := fun h h2 h3 => ef_tail (x := ⟨2, bx, u, f, to_, tx⟩) hk h h2 h3
  rw [hbare] at h3 h6 h1 h0
  simp only at h6 h1 h0
  generalize entryFault ⟨2, bx, u, f, to_, tx⟩ = r at *
  clear hbare hk
  by_cases hc : to_ = (⟨#[]⟩ : ByteArray)
  · subst hc
    by_cases hc : u = 0
    · subst hc
      have hq : eqbAEntry (⟨2, bx, 0, f, ⟨#[]⟩, tx⟩ : AEntry) (⟨2, bx, 0, f, ⟨#[]⟩, tx⟩ : AEntry) = true := eqbAEntry_self _
      replace h6 := h6 hq
      replace h1 := h1 hq
      replace h0 := h0 hq
      clear h3 hq
      rcases (by omega : f < 0 ∨ (0 ≤ f ∧ 31 < f) ∨ (0 ≤ f ∧ f ≤ 31 ∧ (0 : Int) < 0) ∨ (0 ≤ f ∧ f ≤ 31 ∧ 0 ≤ (0 : Int) ∧ 1048576 < (0 : Int)) ∨ (0 ≤ f ∧ f ≤ 31 ∧ 0 ≤ (0 : Int) ∧ (0 : Int) ≤ 1048576)) with g1 | ⟨g1, g2⟩ | ⟨g1, g2, g3⟩ | ⟨g1, g2, g3, g4⟩ | ⟨g1, g2, g3, g4⟩
      · first | (exfalso; omega) | (obtain rfl := h6 (by omega); clear h6 h1 h0; go_enter Tryd.func53, Tryd.ntmps53; go_wp2_with (go_at_call 52; first | (refine (in_yes _ _ _ _ (by omega) (by omega)).mono ?_; rintro e w' ⟨rfl, rfl⟩) | (refine (in_no _ _ _ _ (by omega)).mono ?_; rintro e w' ⟨rfl, rfl⟩)); go_ret; exact ⟨(by first | rfl | (simp; done) | (simp [*]; done) | (rw [if_pos (by omega)]; first | rfl | (simp; done)) | (rw [if_neg (by omega)]; first | rfl | (simp; done)) | (simp; omega)), (by repeat (first | exact Below.refl _ _ | apply below_alloc | apply pw_below_drewN | apply below_drew1 | (refine Below.setCell ?_ (by first | (simp; done) | (simp; omega) | omega) _) ))⟩)
      · first | (exfalso; omega) | (obtain rfl := h6 (by omega); clear h6 h1 h0; go_enter Tryd.func53, Tryd.ntmps53; go_wp2_with (go_at_call 52; first | (refine (in_yes _ _ _ _ (by omega) (by omega)).mono ?_; rintro e w' ⟨rfl, rfl⟩) | (refine (in_no _ _ _ _ (by omega)).mono ?_; rintro e w' ⟨rfl, rfl⟩)); go_ret; exact ⟨(by first | rfl | (simp; done) | (simp [*]; done) | (rw [if_pos (by omega)]; first | rfl | (simp; done)) | (rw [if_neg (by omega)]; first | rfl | (simp; done)) | (simp; omega)), (by repeat (first | exact Below.refl _ _ | apply below_alloc | apply pw_below_drewN | apply below_drew1 | (refine Below.setCell ?_ (by first | (simp; done) | (simp; omega) | omega) _) ))⟩)
      · first | (exfalso; omega) | (obtain rfl := h6 (by omega); clear h6 h1 h0; go_enter Tryd.func53, Tryd.ntmps53; go_wp2_with (go_at_call 52; first | (refine (in_yes _ _ _ _ (by omega) (by omega)).mono ?_; rintro e w' ⟨rfl, rfl⟩) | (refine (in_no _ _ _ _ (by omega)).mono ?_; rintro e w' ⟨rfl, rfl⟩)); go_ret; exact ⟨(by first | rfl | (simp; done) | (simp [*]; done) | (rw [if_pos (by omega)]; first | rfl | (simp; done)) | (rw [if_neg (by omega)]; first | rfl | (simp; done)) | (simp; omega)), (by repeat (first | exact Below.refl _ _ | apply below_alloc | apply pw_below_drewN | apply below_drew1 | (refine Below.setCell ?_ (by first | (simp; done) | (simp; omega) | omega) _) ))⟩)
      · first | (exfalso; omega) | (obtain rfl := h6 (by omega); clear h6 h1 h0; go_enter Tryd.func53, Tryd.ntmps53; go_wp2_with (go_at_call 52; first | (refine (in_yes _ _ _ _ (by omega) (by omega)).mono ?_; rintro e w' ⟨rfl, rfl⟩) | (refine (in_no _ _ _ _ (by omega)).mono ?_; rintro e w' ⟨rfl, rfl⟩)); go_ret; exact ⟨(by first | rfl | (simp; done) | (simp [*]; done) | (rw [if_pos (by omega)]; first | rfl | (simp; done)) | (rw [if_neg (by omega)]; first | rfl | (simp; done)) | (simp; omega)), (by repeat (first | exact Below.refl _ _ | apply below_alloc | apply pw_below_drewN | apply below_drew1 | (refine Below.setCell ?_ (by first | (simp; done) | (simp; omega) | omega) _) ))⟩)
      · by_cases g5 : 2000 < tx.size
        · first | (exfalso; simp at g5; done) | (obtain rfl := h1 (by omega) g5; clear h6 h1 h0; have g5' : (2000 : Int) < tx.size := (by omega); go_enter Tryd.func53, Tryd.ntmps53; go_wp2_with (go_at_call 52; first | (refine (in_yes _ _ _ _ (by omega) (by omega)).mono ?_; rintro e w' ⟨rfl, rfl⟩) | (refine (in_no _ _ _ _ (by omega)).mono ?_; rintro e w' ⟨rfl, rfl⟩)); go_ret; exact ⟨(by first | rfl | (simp; done) | (simp [*]; done) | (rw [if_pos (by omega)]; first | rfl | (simp; done)) | (rw [if_neg (by omega)]; first | rfl | (simp; done)) | (simp; omega)), (by repeat (first | exact Below.refl _ _ | apply below_alloc | apply pw_below_drewN | apply below_drew1 | (refine Below.setCell ?_ (by first | (simp; done) | (simp; omega) | omega) _) ))⟩)
        · replace h0 := h0 (by omega) (by first | exact g5 | omega)
          have g5' : ¬ (2000 : Int) < tx.size := by omega
          clear h6 h1
          replace h0 : r = nameFault bx := by rw [h0, if_neg (by omega), nameTail]; simp only; split <;> simp_all
          have HN := fun w => boxName_calls bx w (by omega)
          generalize nameFault bx = nf at *
          subst h0
          have HN := Lib.hid HN
          by_cases hz : r = 0
          · subst hz
            go_enter Tryd.func53, Tryd.ntmps53
            go_wp2_with (first | (go_at_call 52; first | (refine (in_yes _ _ _ _ (by omega) (by omega)).mono ?_; rintro e w' ⟨rfl, rfl⟩) | (refine (in_no _ _ _ _ (by omega)).mono ?_; rintro e w' ⟨rfl, rfl⟩)) | (go_at_call 50; refine (HN.out _).mono ?_; rintro e w1 ⟨rfl, rfl⟩))
            go_ret; exact ⟨(by first | rfl | (simp; done) | (simp [*]; done) | (rw [if_pos (by omega)]; first | rfl | (simp; done)) | (rw [if_neg (by omega)]; first | rfl | (simp; done)) | (simp; omega)), (by repeat (first | exact Below.refl _ _ | apply below_alloc | apply pw_below_drewN | apply below_drew1 | (refine Below.setCell ?_ (by first | (simp; done) | (simp; omega) | omega) _) ))⟩
          · have e1 : (r == 0) = false := by rw [beq_eq_false_iff_ne]; exact hz
            clear hz
            go_enter Tryd.func53, Tryd.ntmps53
            go_wp2_with (first | (go_at_call 52; first | (refine (in_yes _ _ _ _ (by omega) (by omega)).mono ?_; rintro e w' ⟨rfl, rfl⟩) | (refine (in_no _ _ _ _ (by omega)).mono ?_; rintro e w' ⟨rfl, rfl⟩)) | (go_at_call 50; refine (HN.out _).mono ?_; rintro e w1 ⟨rfl, rfl⟩))
            go_ret; exact ⟨(by first | rfl | (simp; done) | (simp [*]; done) | (rw [if_pos (by omega)]; first | rfl | (simp; done)) | (rw [if_neg (by omega)]; first | rfl | (simp; done)) | (simp; omega)), (by repeat (first | exact Below.refl _ _ | apply below_alloc | apply pw_below_drewN | apply below_drew1 | (refine Below.setCell ?_ (by first | (simp; done) | (simp; omega) | omega) _) ))⟩
    · have q_ : (u != 0) = true := by rw [bne_iff_ne]; exact hc
      obtain rfl := h3 (eqb_not (fun h => by simp_all)); clear h3 h6 h1 h0; go_enter Tryd.func53, Tryd.ntmps53; go_wp2_with (go_at_call 52; first | (refine (in_yes _ _ _ _ (by omega) (by omega)).mono ?_; rintro e w' ⟨rfl, rfl⟩) | (refine (in_no _ _ _ _ (by omega)).mono ?_; rintro e w' ⟨rfl, rfl⟩)); go_ret; exact ⟨(by first | rfl | (simp; done) | (simp [*]; done) | (rw [if_pos (by omega)]; first | rfl | (simp; done)) | (rw [if_neg (by omega)]; first | rfl | (simp; done)) | (simp; omega)), (by repeat (first | exact Below.refl _ _ | apply below_alloc | apply pw_below_drewN | apply below_drew1 | (refine Below.setCell ?_ (by first | (simp; done) | (simp; omega) | omega) _) ))⟩
  · have q_ := lit_no (l := []) hc
    obtain rfl := h3 (eqb_not (fun h => by simp_all)); clear h3 h6 h1 h0; go_enter Tryd.func53, Tryd.ntmps53; go_wp2_with (go_at_call 52; first | (refine (in_yes _ _ _ _ (by omega) (by omega)).mono ?_; rintro e w' ⟨rfl, rfl⟩) | (refine (in_no _ _ _ _ (by omega)).mono ?_; rintro e w' ⟨rfl, rfl⟩)); go_ret; exact ⟨(by first | rfl | (simp; done) | (simp [*]; done) | (rw [if_pos (by omega)]; first | rfl | (simp; done)) | (rw [if_neg (by omega)]; first | rfl | (simp; done)) | (simp; omega)), (by repeat (first | exact Below.refl _ _ | apply below_alloc | apply pw_below_drewN | apply below_drew1 | (refine Below.setCell ?_ (by first | (simp; done) | (simp; omega) | omega) _) ))⟩
set_option maxHeartbeats 8000000 in
set_option maxRecDepth 100000 in
theorem fault_3 (bx : ByteArray) (u f : Int) (to_ tx : ByteArray) (w : World) (hb : bx.size ≤ 1048576) (ht : to_.size ≤ 1048576) (hx : tx.size ≤ 1048576) :
    Calls Tryd.prog 53 #[.agg #[.int .i64 3, .string bx, .int .i64 u, .int .i64 f, .string to_, .string tx]] w fun e w' => e = .returned (.int .i64 (entryFault ⟨3, bx, u, f, to_, tx⟩)) ∧ Below w.heap.size w w' := by
  have hk : ¬ ((⟨3, bx, u, f, to_, tx⟩ : AEntry).kind < 1 ∨ 6 < (⟨3, bx, u, f, to_, tx⟩ : AEntry).kind) := by show ¬ ((3 : Int) < 1 ∨ 6 < (3 : Int)); omega
  have hbare : bareE ⟨3, bx, u, f, to_, tx⟩ = (⟨3, bx, u, f, ⟨#[]⟩, ⟨#[]⟩⟩ : AEntry) := rfl
  have h3 := fun h => ef_form (x := ⟨3, bx, u, f, to_, tx⟩) hk h
  have h6 := fun h h2 => ef_range (x := ⟨3, bx, u, f, to_, tx⟩) hk h h2
  have h1 := fun h h2 h3 => ef_size (x := ⟨3, bx, u, f, to_, tx⟩) hk h h2 h3
  have h0 := fun h h2 h3 => ef_tail (x := ⟨3, bx, u, f, to_, tx⟩) hk h h2 h3
  rw [hbare] at h3 h6 h1 h0
  simp only at h6 h1 h0
  generalize entryFault ⟨3, bx, u, f, to_, tx⟩ = r at *
  clear hbare hk
  by_cases hc : to_ = (⟨#[]⟩ : ByteArray)
  · subst hc
    by_cases hc : tx = (⟨#[]⟩ : ByteArray)
    · subst hc
      have hq : eqbAEntry (⟨3, bx, u, f, ⟨#[]⟩, ⟨#[]⟩⟩ : AEntry) (⟨3, bx, u, f, ⟨#[]⟩, ⟨#[]⟩⟩ : AEntry) = true := eqbAEntry_self _
      replace h6 := h6 hq
      replace h1 := h1 hq
      replace h0 := h0 hq
      clear h3 hq
      rcases (by omega : f < 0 ∨ (0 ≤ f ∧ 31 < f) ∨ (0 ≤ f ∧ f ≤ 31 ∧ u < 0) ∨ (0 ≤ f ∧ f ≤ 31 ∧ 0 ≤ u ∧ 1048576 < u) ∨ (0 ≤ f ∧ f ≤ 31 ∧ 0 ≤ u ∧ u ≤ 1048576)) with g1 | ⟨g1, g2⟩ | ⟨g1, g2, g3⟩ | ⟨g1, g2, g3, g4⟩ | ⟨g1, g2, g3, g4⟩
      · first | (exfalso; omega) | (obtain rfl := h6 (by omega); clear h6 h1 h0; go_enter Tryd.func53, Tryd.ntmps53; go_wp2_with (go_at_call 52; first | (refine (in_yes _ _ _ _ (by omega) (by omega)).mono ?_; rintro e w' ⟨rfl, rfl⟩) | (refine (in_no _ _ _ _ (by omega)).mono ?_; rintro e w' ⟨rfl, rfl⟩)); go_ret; exact ⟨(by first | rfl | (simp; done) | (simp [*]; done) | (rw [if_pos (by omega)]; first | rfl | (simp; done)) | (rw [if_neg (by omega)]; first | rfl | (simp; done)) | (simp; omega)), (by repeat (first | exact Below.refl _ _ | apply below_alloc | apply pw_below_drewN | apply below_drew1 | (refine Below.setCell ?_ (by first | (simp; done) | (simp; omega) | omega) _) ))⟩)
      · first | (exfalso; omega) | (obtain rfl := h6 (by omega); clear h6 h1 h0; go_enter Tryd.func53, Tryd.ntmps53; go_wp2_with (go_at_call 52; first | (refine (in_yes _ _ _ _ (by omega) (by omega)).mono ?_; rintro e w' ⟨rfl, rfl⟩) | (refine (in_no _ _ _ _ (by omega)).mono ?_; rintro e w' ⟨rfl, rfl⟩)); go_ret; exact ⟨(by first | rfl | (simp; done) | (simp [*]; done) | (rw [if_pos (by omega)]; first | rfl | (simp; done)) | (rw [if_neg (by omega)]; first | rfl | (simp; done)) | (simp; omega)), (by repeat (first | exact Below.refl _ _ | apply below_alloc | apply pw_below_drewN | apply below_drew1 | (refine Below.setCell ?_ (by first | (simp; done) | (simp; omega) | omega) _) ))⟩)
      · first | (exfalso; omega) | (obtain rfl := h6 (by omega); clear h6 h1 h0; go_enter Tryd.func53, Tryd.ntmps53; go_wp2_with (go_at_call 52; first | (refine (in_yes _ _ _ _ (by omega) (by omega)).mono ?_; rintro e w' ⟨rfl, rfl⟩) | (refine (in_no _ _ _ _ (by omega)).mono ?_; rintro e w' ⟨rfl, rfl⟩)); go_ret; exact ⟨(by first | rfl | (simp; done) | (simp [*]; done) | (rw [if_pos (by omega)]; first | rfl | (simp; done)) | (rw [if_neg (by omega)]; first | rfl | (simp; done)) | (simp; omega)), (by repeat (first | exact Below.refl _ _ | apply below_alloc | apply pw_below_drewN | apply below_drew1 | (refine Below.setCell ?_ (by first | (simp; done) | (simp; omega) | omega) _) ))⟩)
      · first | (exfalso; omega) | (obtain rfl := h6 (by omega); clear h6 h1 h0; go_enter Tryd.func53, Tryd.ntmps53; go_wp2_with (go_at_call 52; first | (refine (in_yes _ _ _ _ (by omega) (by omega)).mono ?_; rintro e w' ⟨rfl, rfl⟩) | (refine (in_no _ _ _ _ (by omega)).mono ?_; rintro e w' ⟨rfl, rfl⟩)); go_ret; exact ⟨(by first | rfl | (simp; done) | (simp [*]; done) | (rw [if_pos (by omega)]; first | rfl | (simp; done)) | (rw [if_neg (by omega)]; first | rfl | (simp; done)) | (simp; omega)), (by repeat (first | exact Below.refl _ _ | apply below_alloc | apply pw_below_drewN | apply below_drew1 | (refine Below.setCell ?_ (by first | (simp; done) | (simp; omega) | omega) _) ))⟩)
      · replace h0 := h0 (by omega) (by decide)
        clear h6 h1
        replace h0 : r = nameFault bx := by rw [h0, if_neg (by omega), nameTail]; simp only; split <;> simp_all
        have HN := fun w => boxName_calls bx w (by omega)
        generalize nameFault bx = nf at *
        subst h0
        have HN := Lib.hid HN
        by_cases hz : r = 0
        · subst hz
          go_enter Tryd.func53, Tryd.ntmps53
          go_wp2_with (first | (go_at_call 52; first | (refine (in_yes _ _ _ _ (by omega) (by omega)).mono ?_; rintro e w' ⟨rfl, rfl⟩) | (refine (in_no _ _ _ _ (by omega)).mono ?_; rintro e w' ⟨rfl, rfl⟩)) | (go_at_call 50; refine (HN.out _).mono ?_; rintro e w1 ⟨rfl, rfl⟩))
          go_ret; exact ⟨(by first | rfl | (simp; done) | (simp [*]; done) | (rw [if_pos (by omega)]; first | rfl | (simp; done)) | (rw [if_neg (by omega)]; first | rfl | (simp; done)) | (simp; omega)), (by repeat (first | exact Below.refl _ _ | apply below_alloc | apply pw_below_drewN | apply below_drew1 | (refine Below.setCell ?_ (by first | (simp; done) | (simp; omega) | omega) _) ))⟩
        · have e1 : (r == 0) = false := by rw [beq_eq_false_iff_ne]; exact hz
          clear hz
          go_enter Tryd.func53, Tryd.ntmps53
          go_wp2_with (first | (go_at_call 52; first | (refine (in_yes _ _ _ _ (by omega) (by omega)).mono ?_; rintro e w' ⟨rfl, rfl⟩) | (refine (in_no _ _ _ _ (by omega)).mono ?_; rintro e w' ⟨rfl, rfl⟩)) | (go_at_call 50; refine (HN.out _).mono ?_; rintro e w1 ⟨rfl, rfl⟩))
          go_ret; exact ⟨(by first | rfl | (simp; done) | (simp [*]; done) | (rw [if_pos (by omega)]; first | rfl | (simp; done)) | (rw [if_neg (by omega)]; first | rfl | (simp; done)) | (simp; omega)), (by repeat (first | exact Below.refl _ _ | apply below_alloc | apply pw_below_drewN | apply below_drew1 | (refine Below.setCell ?_ (by first | (simp; done) | (simp; omega) | omega) _) ))⟩
    · have q_ := lit_no (l := []) hc
      obtain rfl := h3 (eqb_not (fun h => by simp_all)); clear h3 h6 h1 h0; go_enter Tryd.func53, Tryd.ntmps53; go_wp2_with (go_at_call 52; first | (refine (in_yes _ _ _ _ (by omega) (by omega)).mono ?_; rintro e w' ⟨rfl, rfl⟩) | (refine (in_no _ _ _ _ (by omega)).mono ?_; rintro e w' ⟨rfl, rfl⟩)); go_ret; exact ⟨(by first | rfl | (simp; done) | (simp [*]; done) | (rw [if_pos (by omega)]; first | rfl | (simp; done)) | (rw [if_neg (by omega)]; first | rfl | (simp; done)) | (simp; omega)), (by repeat (first | exact Below.refl _ _ | apply below_alloc | apply pw_below_drewN | apply below_drew1 | (refine Below.setCell ?_ (by first | (simp; done) | (simp; omega) | omega) _) ))⟩
  · have q_ := lit_no (l := []) hc
    obtain rfl := h3 (eqb_not (fun h => by simp_all)); clear h3 h6 h1 h0; go_enter Tryd.func53, Tryd.ntmps53; go_wp2_with (go_at_call 52; first | (refine (in_yes _ _ _ _ (by omega) (by omega)).mono ?_; rintro e w' ⟨rfl, rfl⟩) | (refine (in_no _ _ _ _ (by omega)).mono ?_; rintro e w' ⟨rfl, rfl⟩)); go_ret; exact ⟨(by first | rfl | (simp; done) | (simp [*]; done) | (rw [if_pos (by omega)]; first | rfl | (simp; done)) | (rw [if_neg (by omega)]; first | rfl | (simp; done)) | (simp; omega)), (by repeat (first | exact Below.refl _ _ | apply below_alloc | apply pw_below_drewN | apply below_drew1 | (refine Below.setCell ?_ (by first | (simp; done) | (simp; omega) | omega) _) ))⟩
set_option maxHeartbeats 8000000 in
set_option maxRecDepth 100000 in
theorem fault_4 (bx : ByteArray) (u f : Int) (to_ tx : ByteArray) (w : World) (hb : bx.size ≤ 1048576) (ht : to_.size ≤ 1048576) (hx : tx.size ≤ 1048576) :
    Calls Tryd.prog 53 #[.agg #[.int .i64 4, .string bx, .int .i64 u, .int .i64 f, .string to_, .string tx]] w fun e w' => e = .returned (.int .i64 (entryFault ⟨4, bx, u, f, to_, tx⟩)) ∧ Below w.heap.size w w' := by
  have hk : ¬ ((⟨4, bx, u, f, to_, tx⟩ : AEntry).kind < 1 ∨ 6 < (⟨4, bx, u, f, to_, tx⟩ : AEntry).kind) := by show ¬ ((4 : Int) < 1 ∨ 6 < (4 : Int)); omega
  have hbare : bareE ⟨4, bx, u, f, to_, tx⟩ = (⟨4, bx, 0, 0, ⟨#[]⟩, ⟨#[]⟩⟩ : AEntry) := rfl
  have h3 := fun h => ef_form (x := ⟨4, bx, u, f, to_, tx⟩) hk h
  have h6 := fun h h2 => ef_range (x := ⟨4, bx, u, f, to_, tx⟩) hk h h2
  have h1 := fun h h2 h3 => ef_size (x := ⟨4, bx, u, f, to_, tx⟩) hk h h2 h3
  have h0 := fun h h2 h3 => ef_tail (x := ⟨4, bx, u, f, to_, tx⟩) hk h h2 h3
  rw [hbare] at h3 h6 h1 h0
  simp only at h6 h1 h0
  generalize entryFault ⟨4, bx, u, f, to_, tx⟩ = r at *
  clear hbare hk
  by_cases hc : to_ = (⟨#[]⟩ : ByteArray)
  · subst hc
    by_cases hc : tx = (⟨#[]⟩ : ByteArray)
    · subst hc
      by_cases hc : u = 0
      · subst hc
        by_cases hc : f = 0
        · subst hc
          have hq : eqbAEntry (⟨4, bx, 0, 0, ⟨#[]⟩, ⟨#[]⟩⟩ : AEntry) (⟨4, bx, 0, 0, ⟨#[]⟩, ⟨#[]⟩⟩ : AEntry) = true := eqbAEntry_self _
          replace h6 := h6 hq
          replace h1 := h1 hq
          replace h0 := h0 hq
          clear h3 hq
          rcases (by omega : (0 : Int) < 0 ∨ (0 ≤ (0 : Int) ∧ 31 < (0 : Int)) ∨ (0 ≤ (0 : Int) ∧ (0 : Int) ≤ 31 ∧ (0 : Int) < 0) ∨ (0 ≤ (0 : Int) ∧ (0 : Int) ≤ 31 ∧ 0 ≤ (0 : Int) ∧ 1048576 < (0 : Int)) ∨ (0 ≤ (0 : Int) ∧ (0 : Int) ≤ 31 ∧ 0 ≤ (0 : Int) ∧ (0 : Int) ≤ 1048576)) with g1 | ⟨g1, g2⟩ | ⟨g1, g2, g3⟩ | ⟨g1, g2, g3, g4⟩ | ⟨g1, g2, g3, g4⟩
          · first | (exfalso; omega) | (obtain rfl := h6 (by omega); clear h6 h1 h0; go_enter Tryd.func53, Tryd.ntmps53; go_wp2_with (go_at_call 52; first | (refine (in_yes _ _ _ _ (by omega) (by omega)).mono ?_; rintro e w' ⟨rfl, rfl⟩) | (refine (in_no _ _ _ _ (by omega)).mono ?_; rintro e w' ⟨rfl, rfl⟩)); go_ret; exact ⟨(by first | rfl | (simp; done) | (simp [*]; done) | (rw [if_pos (by omega)]; first | rfl | (simp; done)) | (rw [if_neg (by omega)]; first | rfl | (simp; done)) | (simp; omega)), (by repeat (first | exact Below.refl _ _ | apply below_alloc | apply pw_below_drewN | apply below_drew1 | (refine Below.setCell ?_ (by first | (simp; done) | (simp; omega) | omega) _) ))⟩)
          · first | (exfalso; omega) | (obtain rfl := h6 (by omega); clear h6 h1 h0; go_enter Tryd.func53, Tryd.ntmps53; go_wp2_with (go_at_call 52; first | (refine (in_yes _ _ _ _ (by omega) (by omega)).mono ?_; rintro e w' ⟨rfl, rfl⟩) | (refine (in_no _ _ _ _ (by omega)).mono ?_; rintro e w' ⟨rfl, rfl⟩)); go_ret; exact ⟨(by first | rfl | (simp; done) | (simp [*]; done) | (rw [if_pos (by omega)]; first | rfl | (simp; done)) | (rw [if_neg (by omega)]; first | rfl | (simp; done)) | (simp; omega)), (by repeat (first | exact Below.refl _ _ | apply below_alloc | apply pw_below_drewN | apply below_drew1 | (refine Below.setCell ?_ (by first | (simp; done) | (simp; omega) | omega) _) ))⟩)
          · first | (exfalso; omega) | (obtain rfl := h6 (by omega); clear h6 h1 h0; go_enter Tryd.func53, Tryd.ntmps53; go_wp2_with (go_at_call 52; first | (refine (in_yes _ _ _ _ (by omega) (by omega)).mono ?_; rintro e w' ⟨rfl, rfl⟩) | (refine (in_no _ _ _ _ (by omega)).mono ?_; rintro e w' ⟨rfl, rfl⟩)); go_ret; exact ⟨(by first | rfl | (simp; done) | (simp [*]; done) | (rw [if_pos (by omega)]; first | rfl | (simp; done)) | (rw [if_neg (by omega)]; first | rfl | (simp; done)) | (simp; omega)), (by repeat (first | exact Below.refl _ _ | apply below_alloc | apply pw_below_drewN | apply below_drew1 | (refine Below.setCell ?_ (by first | (simp; done) | (simp; omega) | omega) _) ))⟩)
          · first | (exfalso; omega) | (obtain rfl := h6 (by omega); clear h6 h1 h0; go_enter Tryd.func53, Tryd.ntmps53; go_wp2_with (go_at_call 52; first | (refine (in_yes _ _ _ _ (by omega) (by omega)).mono ?_; rintro e w' ⟨rfl, rfl⟩) | (refine (in_no _ _ _ _ (by omega)).mono ?_; rintro e w' ⟨rfl, rfl⟩)); go_ret; exact ⟨(by first | rfl | (simp; done) | (simp [*]; done) | (rw [if_pos (by omega)]; first | rfl | (simp; done)) | (rw [if_neg (by omega)]; first | rfl | (simp; done)) | (simp; omega)), (by repeat (first | exact Below.refl _ _ | apply below_alloc | apply pw_below_drewN | apply below_drew1 | (refine Below.setCell ?_ (by first | (simp; done) | (simp; omega) | omega) _) ))⟩)
          · replace h0 := h0 (by omega) (by decide)
            clear h6 h1
            replace h0 : r = nameFault bx := by rw [h0, if_neg (by omega), nameTail]; simp only; split <;> simp_all
            have HN := fun w => boxName_calls bx w (by omega)
            generalize nameFault bx = nf at *
            subst h0
            have HN := Lib.hid HN
            by_cases hz : r = 0
            · subst hz
              go_enter Tryd.func53, Tryd.ntmps53
              go_wp2_with (first | (go_at_call 52; first | (refine (in_yes _ _ _ _ (by omega) (by omega)).mono ?_; rintro e w' ⟨rfl, rfl⟩) | (refine (in_no _ _ _ _ (by omega)).mono ?_; rintro e w' ⟨rfl, rfl⟩)) | (go_at_call 50; refine (HN.out _).mono ?_; rintro e w1 ⟨rfl, rfl⟩))
              go_ret; exact ⟨(by first | rfl | (simp; done) | (simp [*]; done) | (rw [if_pos (by omega)]; first | rfl | (simp; done)) | (rw [if_neg (by omega)]; first | rfl | (simp; done)) | (simp; omega)), (by repeat (first | exact Below.refl _ _ | apply below_alloc | apply pw_below_drewN | apply below_drew1 | (refine Below.setCell ?_ (by first | (simp; done) | (simp; omega) | omega) _) ))⟩
            · have e1 : (r == 0) = false := by rw [beq_eq_false_iff_ne]; exact hz
              clear hz
              go_enter Tryd.func53, Tryd.ntmps53
              go_wp2_with (first | (go_at_call 52; first | (refine (in_yes _ _ _ _ (by omega) (by omega)).mono ?_; rintro e w' ⟨rfl, rfl⟩) | (refine (in_no _ _ _ _ (by omega)).mono ?_; rintro e w' ⟨rfl, rfl⟩)) | (go_at_call 50; refine (HN.out _).mono ?_; rintro e w1 ⟨rfl, rfl⟩))
              go_ret; exact ⟨(by first | rfl | (simp; done) | (simp [*]; done) | (rw [if_pos (by omega)]; first | rfl | (simp; done)) | (rw [if_neg (by omega)]; first | rfl | (simp; done)) | (simp; omega)), (by repeat (first | exact Below.refl _ _ | apply below_alloc | apply pw_below_drewN | apply below_drew1 | (refine Below.setCell ?_ (by first | (simp; done) | (simp; omega) | omega) _) ))⟩
        · have q_ : (f != 0) = true := by rw [bne_iff_ne]; exact hc
          obtain rfl := h3 (eqb_not (fun h => by simp_all)); clear h3 h6 h1 h0; go_enter Tryd.func53, Tryd.ntmps53; go_wp2_with (go_at_call 52; first | (refine (in_yes _ _ _ _ (by omega) (by omega)).mono ?_; rintro e w' ⟨rfl, rfl⟩) | (refine (in_no _ _ _ _ (by omega)).mono ?_; rintro e w' ⟨rfl, rfl⟩)); go_ret; exact ⟨(by first | rfl | (simp; done) | (simp [*]; done) | (rw [if_pos (by omega)]; first | rfl | (simp; done)) | (rw [if_neg (by omega)]; first | rfl | (simp; done)) | (simp; omega)), (by repeat (first | exact Below.refl _ _ | apply below_alloc | apply pw_below_drewN | apply below_drew1 | (refine Below.setCell ?_ (by first | (simp; done) | (simp; omega) | omega) _) ))⟩
      · have q_ : (u != 0) = true := by rw [bne_iff_ne]; exact hc
        obtain rfl := h3 (eqb_not (fun h => by simp_all)); clear h3 h6 h1 h0; go_enter Tryd.func53, Tryd.ntmps53; go_wp2_with (go_at_call 52; first | (refine (in_yes _ _ _ _ (by omega) (by omega)).mono ?_; rintro e w' ⟨rfl, rfl⟩) | (refine (in_no _ _ _ _ (by omega)).mono ?_; rintro e w' ⟨rfl, rfl⟩)); go_ret; exact ⟨(by first | rfl | (simp; done) | (simp [*]; done) | (rw [if_pos (by omega)]; first | rfl | (simp; done)) | (rw [if_neg (by omega)]; first | rfl | (simp; done)) | (simp; omega)), (by repeat (first | exact Below.refl _ _ | apply below_alloc | apply pw_below_drewN | apply below_drew1 | (refine Below.setCell ?_ (by first | (simp; done) | (simp; omega) | omega) _) ))⟩
    · have q_ := lit_no (l := []) hc
      obtain rfl := h3 (eqb_not (fun h => by simp_all)); clear h3 h6 h1 h0; go_enter Tryd.func53, Tryd.ntmps53; go_wp2_with (go_at_call 52; first | (refine (in_yes _ _ _ _ (by omega) (by omega)).mono ?_; rintro e w' ⟨rfl, rfl⟩) | (refine (in_no _ _ _ _ (by omega)).mono ?_; rintro e w' ⟨rfl, rfl⟩)); go_ret; exact ⟨(by first | rfl | (simp; done) | (simp [*]; done) | (rw [if_pos (by omega)]; first | rfl | (simp; done)) | (rw [if_neg (by omega)]; first | rfl | (simp; done)) | (simp; omega)), (by repeat (first | exact Below.refl _ _ | apply below_alloc | apply pw_below_drewN | apply below_drew1 | (refine Below.setCell ?_ (by first | (simp; done) | (simp; omega) | omega) _) ))⟩
  · have q_ := lit_no (l := []) hc
    obtain rfl := h3 (eqb_not (fun h => by simp_all)); clear h3 h6 h1 h0; go_enter Tryd.func53, Tryd.ntmps53; go_wp2_with (go_at_call 52; first | (refine (in_yes _ _ _ _ (by omega) (by omega)).mono ?_; rintro e w' ⟨rfl, rfl⟩) | (refine (in_no _ _ _ _ (by omega)).mono ?_; rintro e w' ⟨rfl, rfl⟩)); go_ret; exact ⟨(by first | rfl | (simp; done) | (simp [*]; done) | (rw [if_pos (by omega)]; first | rfl | (simp; done)) | (rw [if_neg (by omega)]; first | rfl | (simp; done)) | (simp; omega)), (by repeat (first | exact Below.refl _ _ | apply below_alloc | apply pw_below_drewN | apply below_drew1 | (refine Below.setCell ?_ (by first | (simp; done) | (simp; omega) | omega) _) ))⟩
set_option maxHeartbeats 8000000 in
set_option maxRecDepth 100000 in
theorem fault_5 (bx : ByteArray) (u f : Int) (to_ tx : ByteArray) (w : World) (hb : bx.size ≤ 1048576) (ht : to_.size ≤ 1048576) (hx : tx.size ≤ 1048576) :
    Calls Tryd.prog 53 #[.agg #[.int .i64 5, .string bx, .int .i64 u, .int .i64 f, .string to_, .string tx]] w fun e w' => e = .returned (.int .i64 (entryFault ⟨5, bx, u, f, to_, tx⟩)) ∧ Below w.heap.size w w' := by
  have hk : ¬ ((⟨5, bx, u, f, to_, tx⟩ : AEntry).kind < 1 ∨ 6 < (⟨5, bx, u, f, to_, tx⟩ : AEntry).kind) := by show ¬ ((5 : Int) < 1 ∨ 6 < (5 : Int)); omega
  have hbare : bareE ⟨5, bx, u, f, to_, tx⟩ = (⟨5, bx, u, 0, to_, ⟨#[]⟩⟩ : AEntry) := rfl
  have h3 := fun h => ef_form (x := ⟨5, bx, u, f, to_, tx⟩) hk h
  have h6 := fun h h2 => ef_range (x := ⟨5, bx, u, f, to_, tx⟩) hk h h2
  have h1 := fun h h2 h3 => ef_size (x := ⟨5, bx, u, f, to_, tx⟩) hk h h2 h3
  have h0 := fun h h2 h3 => ef_tail (x := ⟨5, bx, u, f, to_, tx⟩) hk h h2 h3
  rw [hbare] at h3 h6 h1 h0
  simp only at h6 h1 h0
  generalize entryFault ⟨5, bx, u, f, to_, tx⟩ = r at *
  clear hbare hk
  by_cases hc : tx = (⟨#[]⟩ : ByteArray)
  · subst hc
    by_cases hc : f = 0
    · subst hc
      have hq : eqbAEntry (⟨5, bx, u, 0, to_, ⟨#[]⟩⟩ : AEntry) (⟨5, bx, u, 0, to_, ⟨#[]⟩⟩ : AEntry) = true := eqbAEntry_self _
      replace h6 := h6 hq
      replace h1 := h1 hq
      replace h0 := h0 hq
      clear h3 hq
      rcases (by omega : (0 : Int) < 0 ∨ (0 ≤ (0 : Int) ∧ 31 < (0 : Int)) ∨ (0 ≤ (0 : Int) ∧ (0 : Int) ≤ 31 ∧ u < 0) ∨ (0 ≤ (0 : Int) ∧ (0 : Int) ≤ 31 ∧ 0 ≤ u ∧ 1048576 < u) ∨ (0 ≤ (0 : Int) ∧ (0 : Int) ≤ 31 ∧ 0 ≤ u ∧ u ≤ 1048576)) with g1 | ⟨g1, g2⟩ | ⟨g1, g2, g3⟩ | ⟨g1, g2, g3, g4⟩ | ⟨g1, g2, g3, g4⟩
      · first | (exfalso; omega) | (obtain rfl := h6 (by omega); clear h6 h1 h0; go_enter Tryd.func53, Tryd.ntmps53; go_wp2_with (go_at_call 52; first | (refine (in_yes _ _ _ _ (by omega) (by omega)).mono ?_; rintro e w' ⟨rfl, rfl⟩) | (refine (in_no _ _ _ _ (by omega)).mono ?_; rintro e w' ⟨rfl, rfl⟩)); go_ret; exact ⟨(by first | rfl | (simp; done) | (simp [*]; done) | (rw [if_pos (by omega)]; first | rfl | (simp; done)) | (rw [if_neg (by omega)]; first | rfl | (simp; done)) | (simp; omega)), (by repeat (first | exact Below.refl _ _ | apply below_alloc | apply pw_below_drewN | apply below_drew1 | (refine Below.setCell ?_ (by first | (simp; done) | (simp; omega) | omega) _) ))⟩)
      · first | (exfalso; omega) | (obtain rfl := h6 (by omega); clear h6 h1 h0; go_enter Tryd.func53, Tryd.ntmps53; go_wp2_with (go_at_call 52; first | (refine (in_yes _ _ _ _ (by omega) (by omega)).mono ?_; rintro e w' ⟨rfl, rfl⟩) | (refine (in_no _ _ _ _ (by omega)).mono ?_; rintro e w' ⟨rfl, rfl⟩)); go_ret; exact ⟨(by first | rfl | (simp; done) | (simp [*]; done) | (rw [if_pos (by omega)]; first | rfl | (simp; done)) | (rw [if_neg (by omega)]; first | rfl | (simp; done)) | (simp; omega)), (by repeat (first | exact Below.refl _ _ | apply below_alloc | apply pw_below_drewN | apply below_drew1 | (refine Below.setCell ?_ (by first | (simp; done) | (simp; omega) | omega) _) ))⟩)
      · first | (exfalso; omega) | (obtain rfl := h6 (by omega); clear h6 h1 h0; go_enter Tryd.func53, Tryd.ntmps53; go_wp2_with (go_at_call 52; first | (refine (in_yes _ _ _ _ (by omega) (by omega)).mono ?_; rintro e w' ⟨rfl, rfl⟩) | (refine (in_no _ _ _ _ (by omega)).mono ?_; rintro e w' ⟨rfl, rfl⟩)); go_ret; exact ⟨(by first | rfl | (simp; done) | (simp [*]; done) | (rw [if_pos (by omega)]; first | rfl | (simp; done)) | (rw [if_neg (by omega)]; first | rfl | (simp; done)) | (simp; omega)), (by repeat (first | exact Below.refl _ _ | apply below_alloc | apply pw_below_drewN | apply below_drew1 | (refine Below.setCell ?_ (by first | (simp; done) | (simp; omega) | omega) _) ))⟩)
      · first | (exfalso; omega) | (obtain rfl := h6 (by omega); clear h6 h1 h0; go_enter Tryd.func53, Tryd.ntmps53; go_wp2_with (go_at_call 52; first | (refine (in_yes _ _ _ _ (by omega) (by omega)).mono ?_; rintro e w' ⟨rfl, rfl⟩) | (refine (in_no _ _ _ _ (by omega)).mono ?_; rintro e w' ⟨rfl, rfl⟩)); go_ret; exact ⟨(by first | rfl | (simp; done) | (simp [*]; done) | (rw [if_pos (by omega)]; first | rfl | (simp; done)) | (rw [if_neg (by omega)]; first | rfl | (simp; done)) | (simp; omega)), (by repeat (first | exact Below.refl _ _ | apply below_alloc | apply pw_below_drewN | apply below_drew1 | (refine Below.setCell ?_ (by first | (simp; done) | (simp; omega) | omega) _) ))⟩)
      · replace h0 := h0 (by omega) (by decide)
        clear h6 h1
        replace h0 : r = if nameFault bx = 0 then nameFault to_ else nameFault bx := by rw [h0, if_neg (by omega), nameTail]; simp
        have HN := fun w => boxName_calls bx w (by omega)
        have HM := fun w => boxName_calls to_ w (by omega)
        generalize nameFault bx = nf at *
        generalize nameFault to_ = nt at *
        have HN := Lib.hid HN
        have HM := Lib.hid HM
        by_cases hz : nf = 0
        · subst hz
          rw [if_pos rfl] at h0
          subst h0
          go_enter Tryd.func53, Tryd.ntmps53
          go_wp2_with (go_at_call 52; first | (refine (in_yes _ _ _ _ (by omega) (by omega)).mono ?_; rintro e w' ⟨rfl, rfl⟩) | (refine (in_no _ _ _ _ (by omega)).mono ?_; rintro e w' ⟨rfl, rfl⟩))
          refine (HN.out _).mono ?_
          rintro e w1 ⟨rfl, rfl⟩
          go_wp2_with (go_at_call 52; first | (refine (in_yes _ _ _ _ (by omega) (by omega)).mono ?_; rintro e w' ⟨rfl, rfl⟩) | (refine (in_no _ _ _ _ (by omega)).mono ?_; rintro e w' ⟨rfl, rfl⟩))
          refine (HM.out _).mono ?_
          rintro e w1 ⟨rfl, rfl⟩
          go_wp2_with (go_at_call 52; first | (refine (in_yes _ _ _ _ (by omega) (by omega)).mono ?_; rintro e w' ⟨rfl, rfl⟩) | (refine (in_no _ _ _ _ (by omega)).mono ?_; rintro e w' ⟨rfl, rfl⟩))
          go_ret; exact ⟨(by first | rfl | (simp; done) | (simp [*]; done) | (rw [if_pos (by omega)]; first | rfl | (simp; done)) | (rw [if_neg (by omega)]; first | rfl | (simp; done)) | (simp; omega)), (by repeat (first | exact Below.refl _ _ | apply below_alloc | apply pw_below_drewN | apply below_drew1 | (refine Below.setCell ?_ (by first | (simp; done) | (simp; omega) | omega) _) ))⟩
        · rw [if_neg hz] at h0
          subst h0
          have e1 : (r == 0) = false := by rw [beq_eq_false_iff_ne]; exact hz
          clear hz
          go_enter Tryd.func53, Tryd.ntmps53
          go_wp2_with (first | (go_at_call 52; first | (refine (in_yes _ _ _ _ (by omega) (by omega)).mono ?_; rintro e w' ⟨rfl, rfl⟩) | (refine (in_no _ _ _ _ (by omega)).mono ?_; rintro e w' ⟨rfl, rfl⟩)) | (go_at_call 50; refine (HN.out _).mono ?_; rintro e w1 ⟨rfl, rfl⟩))
          go_ret; exact ⟨(by first | rfl | (simp; done) | (simp [*]; done) | (rw [if_pos (by omega)]; first | rfl | (simp; done)) | (rw [if_neg (by omega)]; first | rfl | (simp; done)) | (simp; omega)), (by repeat (first | exact Below.refl _ _ | apply below_alloc | apply pw_below_drewN | apply below_drew1 | (refine Below.setCell ?_ (by first | (simp; done) | (simp; omega) | omega) _) ))⟩
    · have q_ : (f != 0) = true := by rw [bne_iff_ne]; exact hc
      obtain rfl := h3 (eqb_not (fun h => by simp_all)); clear h3 h6 h1 h0; go_enter Tryd.func53, Tryd.ntmps53; go_wp2_with (go_at_call 52; first | (refine (in_yes _ _ _ _ (by omega) (by omega)).mono ?_; rintro e w' ⟨rfl, rfl⟩) | (refine (in_no _ _ _ _ (by omega)).mono ?_; rintro e w' ⟨rfl, rfl⟩)); go_ret; exact ⟨(by first | rfl | (simp; done) | (simp [*]; done) | (rw [if_pos (by omega)]; first | rfl | (simp; done)) | (rw [if_neg (by omega)]; first | rfl | (simp; done)) | (simp; omega)), (by repeat (first | exact Below.refl _ _ | apply below_alloc | apply pw_below_drewN | apply below_drew1 | (refine Below.setCell ?_ (by first | (simp; done) | (simp; omega) | omega) _) ))⟩
  · have q_ := lit_no (l := []) hc
    obtain rfl := h3 (eqb_not (fun h => by simp_all)); clear h3 h6 h1 h0; go_enter Tryd.func53, Tryd.ntmps53; go_wp2_with (go_at_call 52; first | (refine (in_yes _ _ _ _ (by omega) (by omega)).mono ?_; rintro e w' ⟨rfl, rfl⟩) | (refine (in_no _ _ _ _ (by omega)).mono ?_; rintro e w' ⟨rfl, rfl⟩)); go_ret; exact ⟨(by first | rfl | (simp; done) | (simp [*]; done) | (rw [if_pos (by omega)]; first | rfl | (simp; done)) | (rw [if_neg (by omega)]; first | rfl | (simp; done)) | (simp; omega)), (by repeat (first | exact Below.refl _ _ | apply below_alloc | apply pw_below_drewN | apply below_drew1 | (refine Below.setCell ?_ (by first | (simp; done) | (simp; omega) | omega) _) ))⟩
set_option maxHeartbeats 8000000 in
set_option maxRecDepth 100000 in
theorem fault_6 (bx : ByteArray) (u f : Int) (to_ tx : ByteArray) (w : World) (hb : bx.size ≤ 1048576) (ht : to_.size ≤ 1048576) (hx : tx.size ≤ 1048576) :
    Calls Tryd.prog 53 #[.agg #[.int .i64 6, .string bx, .int .i64 u, .int .i64 f, .string to_, .string tx]] w fun e w' => e = .returned (.int .i64 (entryFault ⟨6, bx, u, f, to_, tx⟩)) ∧ Below w.heap.size w w' := by
  have hk : ¬ ((⟨6, bx, u, f, to_, tx⟩ : AEntry).kind < 1 ∨ 6 < (⟨6, bx, u, f, to_, tx⟩ : AEntry).kind) := by show ¬ ((6 : Int) < 1 ∨ 6 < (6 : Int)); omega
  have hbare : bareE ⟨6, bx, u, f, to_, tx⟩ = (⟨6, ⟨#[]⟩, 0, 0, to_, tx⟩ : AEntry) := rfl
  have h3 := fun h => ef_form (x := ⟨6, bx, u, f, to_, tx⟩) hk h
  have h6 := fun h h2 => ef_range (x := ⟨6, bx, u, f, to_, tx⟩) hk h h2
  have h1 := fun h h2 h3 => ef_size (x := ⟨6, bx, u, f, to_, tx⟩) hk h h2 h3
  have h0 := fun h h2 h3 => ef_tail (x := ⟨6, bx, u, f, to_, tx⟩) hk h h2 h3
  rw [hbare] at h3 h6 h1 h0
  simp only at h6 h1 h0
  generalize entryFault ⟨6, bx, u, f, to_, tx⟩ = r at *
  clear hbare hk
  by_cases hc : bx = (⟨#[]⟩ : ByteArray)
  · subst hc
    by_cases hc : u = 0
    · subst hc
      by_cases hc : f = 0
      · subst hc
        have hq : eqbAEntry (⟨6, ⟨#[]⟩, 0, 0, to_, tx⟩ : AEntry) (⟨6, ⟨#[]⟩, 0, 0, to_, tx⟩ : AEntry) = true := eqbAEntry_self _
        replace h6 := h6 hq
        replace h1 := h1 hq
        replace h0 := h0 hq
        clear h3 hq
        rcases (by omega : (0 : Int) < 0 ∨ (0 ≤ (0 : Int) ∧ 31 < (0 : Int)) ∨ (0 ≤ (0 : Int) ∧ (0 : Int) ≤ 31 ∧ (0 : Int) < 0) ∨ (0 ≤ (0 : Int) ∧ (0 : Int) ≤ 31 ∧ 0 ≤ (0 : Int) ∧ 1048576 < (0 : Int)) ∨ (0 ≤ (0 : Int) ∧ (0 : Int) ≤ 31 ∧ 0 ≤ (0 : Int) ∧ (0 : Int) ≤ 1048576)) with g1 | ⟨g1, g2⟩ | ⟨g1, g2, g3⟩ | ⟨g1, g2, g3, g4⟩ | ⟨g1, g2, g3, g4⟩
        · first | (exfalso; omega) | (obtain rfl := h6 (by omega); clear h6 h1 h0; go_enter Tryd.func53, Tryd.ntmps53; go_wp2_with (go_at_call 52; first | (refine (in_yes _ _ _ _ (by omega) (by omega)).mono ?_; rintro e w' ⟨rfl, rfl⟩) | (refine (in_no _ _ _ _ (by omega)).mono ?_; rintro e w' ⟨rfl, rfl⟩)); go_ret; exact ⟨(by first | rfl | (simp; done) | (simp [*]; done) | (rw [if_pos (by omega)]; first | rfl | (simp; done)) | (rw [if_neg (by omega)]; first | rfl | (simp; done)) | (simp; omega)), (by repeat (first | exact Below.refl _ _ | apply below_alloc | apply pw_below_drewN | apply below_drew1 | (refine Below.setCell ?_ (by first | (simp; done) | (simp; omega) | omega) _) ))⟩)
        · first | (exfalso; omega) | (obtain rfl := h6 (by omega); clear h6 h1 h0; go_enter Tryd.func53, Tryd.ntmps53; go_wp2_with (go_at_call 52; first | (refine (in_yes _ _ _ _ (by omega) (by omega)).mono ?_; rintro e w' ⟨rfl, rfl⟩) | (refine (in_no _ _ _ _ (by omega)).mono ?_; rintro e w' ⟨rfl, rfl⟩)); go_ret; exact ⟨(by first | rfl | (simp; done) | (simp [*]; done) | (rw [if_pos (by omega)]; first | rfl | (simp; done)) | (rw [if_neg (by omega)]; first | rfl | (simp; done)) | (simp; omega)), (by repeat (first | exact Below.refl _ _ | apply below_alloc | apply pw_below_drewN | apply below_drew1 | (refine Below.setCell ?_ (by first | (simp; done) | (simp; omega) | omega) _) ))⟩)
        · first | (exfalso; omega) | (obtain rfl := h6 (by omega); clear h6 h1 h0; go_enter Tryd.func53, Tryd.ntmps53; go_wp2_with (go_at_call 52; first | (refine (in_yes _ _ _ _ (by omega) (by omega)).mono ?_; rintro e w' ⟨rfl, rfl⟩) | (refine (in_no _ _ _ _ (by omega)).mono ?_; rintro e w' ⟨rfl, rfl⟩)); go_ret; exact ⟨(by first | rfl | (simp; done) | (simp [*]; done) | (rw [if_pos (by omega)]; first | rfl | (simp; done)) | (rw [if_neg (by omega)]; first | rfl | (simp; done)) | (simp; omega)), (by repeat (first | exact Below.refl _ _ | apply below_alloc | apply pw_below_drewN | apply below_drew1 | (refine Below.setCell ?_ (by first | (simp; done) | (simp; omega) | omega) _) ))⟩)
        · first | (exfalso; omega) | (obtain rfl := h6 (by omega); clear h6 h1 h0; go_enter Tryd.func53, Tryd.ntmps53; go_wp2_with (go_at_call 52; first | (refine (in_yes _ _ _ _ (by omega) (by omega)).mono ?_; rintro e w' ⟨rfl, rfl⟩) | (refine (in_no _ _ _ _ (by omega)).mono ?_; rintro e w' ⟨rfl, rfl⟩)); go_ret; exact ⟨(by first | rfl | (simp; done) | (simp [*]; done) | (rw [if_pos (by omega)]; first | rfl | (simp; done)) | (rw [if_neg (by omega)]; first | rfl | (simp; done)) | (simp; omega)), (by repeat (first | exact Below.refl _ _ | apply below_alloc | apply pw_below_drewN | apply below_drew1 | (refine Below.setCell ?_ (by first | (simp; done) | (simp; omega) | omega) _) ))⟩)
        · by_cases g5 : 2000 < tx.size
          · first | (exfalso; simp at g5; done) | (obtain rfl := h1 (by omega) g5; clear h6 h1 h0; have g5' : (2000 : Int) < tx.size := (by omega); go_enter Tryd.func53, Tryd.ntmps53; go_wp2_with (go_at_call 52; first | (refine (in_yes _ _ _ _ (by omega) (by omega)).mono ?_; rintro e w' ⟨rfl, rfl⟩) | (refine (in_no _ _ _ _ (by omega)).mono ?_; rintro e w' ⟨rfl, rfl⟩)); go_ret; exact ⟨(by first | rfl | (simp; done) | (simp [*]; done) | (rw [if_pos (by omega)]; first | rfl | (simp; done)) | (rw [if_neg (by omega)]; first | rfl | (simp; done)) | (simp; omega)), (by repeat (first | exact Below.refl _ _ | apply below_alloc | apply pw_below_drewN | apply below_drew1 | (refine Below.setCell ?_ (by first | (simp; done) | (simp; omega) | omega) _) ))⟩)
          · replace h0 := h0 (by omega) (by first | exact g5 | omega)
            have g5' : ¬ (2000 : Int) < tx.size := by omega
            clear h6 h1
            rw [if_pos (by trivial)] at h0
            by_cases h100 : 100 < to_.size
            · rw [spool_long h100] at h0
              subst h0
              have h100' : (100 : Int) < to_.size := by omega
              go_enter Tryd.func53, Tryd.ntmps53
              go_wp2_with (go_at_call 52; first | (refine (in_yes _ _ _ _ (by omega) (by omega)).mono ?_; rintro e w' ⟨rfl, rfl⟩) | (refine (in_no _ _ _ _ (by omega)).mono ?_; rintro e w' ⟨rfl, rfl⟩))
              go_ret; exact ⟨(by first | rfl | (simp; done) | (simp [*]; done) | (rw [if_pos (by omega)]; first | rfl | (simp; done)) | (rw [if_neg (by omega)]; first | rfl | (simp; done)) | (simp; omega)), (by repeat (first | exact Below.refl _ _ | apply below_alloc | apply pw_below_drewN | apply below_drew1 | (refine Below.setCell ?_ (by first | (simp; done) | (simp; omega) | omega) _) ))⟩
            · have h100' : ¬ (100 : Int) < to_.size := by omega
              have HL := fun w => listOf_calls to_ w ht
              cases hl : listP okAddr to_ 0 with
              | none =>
                rw [spool_none hl] at h0
                rw [hl] at HL
                subst h0
                clear hl
                have HL := Lib.hid HL
                go_enter Tryd.func53, Tryd.ntmps53
                go_wp2_with (go_at_call 52; first | (refine (in_yes _ _ _ _ (by omega) (by omega)).mono ?_; rintro e w' ⟨rfl, rfl⟩) | (refine (in_no _ _ _ _ (by omega)).mono ?_; rintro e w' ⟨rfl, rfl⟩))
                refine (HL.out _).mono ?_
                intro e w1 hw1
                obtain ⟨rfl, hb1⟩ : _ ∧ _ := hw1
                go_wp2_with (go_at_call 52; first | (refine (in_yes _ _ _ _ (by omega) (by omega)).mono ?_; rintro e w' ⟨rfl, rfl⟩) | (refine (in_no _ _ _ _ (by omega)).mono ?_; rintro e w' ⟨rfl, rfl⟩))
                go_ret
                exact ⟨(by first | rfl | (simp; done) | (simp [*]; done) | (rw [if_pos (by omega)]; first | rfl | (simp; done)) | (rw [if_neg (by omega)]; first | rfl | (simp; done)) | (simp; omega)), (by repeat (first | exact Below.refl _ _ | apply below_alloc | apply pw_below_drewN | apply below_drew1 | (refine Below.setCell ?_ (by first | (simp; done) | (simp; omega) | omega) _) | (refine below_then ?_ (by first | (simp; done) | (simp; omega) | omega) hb1)))⟩
              | some l =>
                rw [spool_one (by omega) hl] at h0
                rw [hl] at HL
                clear hl
                have HL := Lib.hid HL
                by_cases h1 : l.length = 1
                · rw [if_pos h1] at h0
                  subst h0
                  have hl' : (l.length : Int) = 1 := by omega
                  go_enter Tryd.func53, Tryd.ntmps53
                  go_wp2_with (go_at_call 52; first | (refine (in_yes _ _ _ _ (by omega) (by omega)).mono ?_; rintro e w' ⟨rfl, rfl⟩) | (refine (in_no _ _ _ _ (by omega)).mono ?_; rintro e w' ⟨rfl, rfl⟩))
                  refine (HL.out _).mono ?_
                  intro e w1 hw1
                  obtain ⟨v, rfl, hR1, hb1⟩ : ∃ v, _ ∧ _ ∧ _ := hw1
                  obtain ⟨A1, c1, rfl⟩ := Kd.R_slice hR1
                  go_wp2_with (go_at_call 52; first | (refine (in_yes _ _ _ _ (by omega) (by omega)).mono ?_; rintro e w' ⟨rfl, rfl⟩) | (refine (in_no _ _ _ _ (by omega)).mono ?_; rintro e w' ⟨rfl, rfl⟩))
                  go_ret
                  exact ⟨(by first | rfl | (simp; done) | (simp [*]; done) | (rw [if_pos (by omega)]; first | rfl | (simp; done)) | (rw [if_neg (by omega)]; first | rfl | (simp; done)) | (simp; omega)), (by repeat (first | exact Below.refl _ _ | apply below_alloc | apply pw_below_drewN | apply below_drew1 | (refine Below.setCell ?_ (by first | (simp; done) | (simp; omega) | omega) _) | (refine below_then ?_ (by first | (simp; done) | (simp; omega) | omega) hb1)))⟩
                · rw [if_neg h1] at h0
                  subst h0
                  have hl' : ((l.length : Int) != 1) = true := by rw [bne_iff_ne]; omega
                  go_enter Tryd.func53, Tryd.ntmps53
                  go_wp2_with (go_at_call 52; first | (refine (in_yes _ _ _ _ (by omega) (by omega)).mono ?_; rintro e w' ⟨rfl, rfl⟩) | (refine (in_no _ _ _ _ (by omega)).mono ?_; rintro e w' ⟨rfl, rfl⟩))
                  refine (HL.out _).mono ?_
                  intro e w1 hw1
                  obtain ⟨v, rfl, hR1, hb1⟩ : ∃ v, _ ∧ _ ∧ _ := hw1
                  obtain ⟨A1, c1, rfl⟩ := Kd.R_slice hR1
                  go_wp2_with (go_at_call 52; first | (refine (in_yes _ _ _ _ (by omega) (by omega)).mono ?_; rintro e w' ⟨rfl, rfl⟩) | (refine (in_no _ _ _ _ (by omega)).mono ?_; rintro e w' ⟨rfl, rfl⟩))
                  go_ret
                  exact ⟨(by first | rfl | (simp; done) | (simp [*]; done) | (rw [if_pos (by omega)]; first | rfl | (simp; done)) | (rw [if_neg (by omega)]; first | rfl | (simp; done)) | (simp; omega)), (by repeat (first | exact Below.refl _ _ | apply below_alloc | apply pw_below_drewN | apply below_drew1 | (refine Below.setCell ?_ (by first | (simp; done) | (simp; omega) | omega) _) | (refine below_then ?_ (by first | (simp; done) | (simp; omega) | omega) hb1)))⟩
      · have q_ : (f != 0) = true := by rw [bne_iff_ne]; exact hc
        obtain rfl := h3 (eqb_not (fun h => by simp_all)); clear h3 h6 h1 h0; go_enter Tryd.func53, Tryd.ntmps53; go_wp2_with (go_at_call 52; first | (refine (in_yes _ _ _ _ (by omega) (by omega)).mono ?_; rintro e w' ⟨rfl, rfl⟩) | (refine (in_no _ _ _ _ (by omega)).mono ?_; rintro e w' ⟨rfl, rfl⟩)); go_ret; exact ⟨(by first | rfl | (simp; done) | (simp [*]; done) | (rw [if_pos (by omega)]; first | rfl | (simp; done)) | (rw [if_neg (by omega)]; first | rfl | (simp; done)) | (simp; omega)), (by repeat (first | exact Below.refl _ _ | apply below_alloc | apply pw_below_drewN | apply below_drew1 | (refine Below.setCell ?_ (by first | (simp; done) | (simp; omega) | omega) _) ))⟩
    · have q_ : (u != 0) = true := by rw [bne_iff_ne]; exact hc
      obtain rfl := h3 (eqb_not (fun h => by simp_all)); clear h3 h6 h1 h0; go_enter Tryd.func53, Tryd.ntmps53; go_wp2_with (go_at_call 52; first | (refine (in_yes _ _ _ _ (by omega) (by omega)).mono ?_; rintro e w' ⟨rfl, rfl⟩) | (refine (in_no _ _ _ _ (by omega)).mono ?_; rintro e w' ⟨rfl, rfl⟩)); go_ret; exact ⟨(by first | rfl | (simp; done) | (simp [*]; done) | (rw [if_pos (by omega)]; first | rfl | (simp; done)) | (rw [if_neg (by omega)]; first | rfl | (simp; done)) | (simp; omega)), (by repeat (first | exact Below.refl _ _ | apply below_alloc | apply pw_below_drewN | apply below_drew1 | (refine Below.setCell ?_ (by first | (simp; done) | (simp; omega) | omega) _) ))⟩
  · have q_ := lit_no (l := []) hc
    obtain rfl := h3 (eqb_not (fun h => by simp_all)); clear h3 h6 h1 h0; go_enter Tryd.func53, Tryd.ntmps53; go_wp2_with (go_at_call 52; first | (refine (in_yes _ _ _ _ (by omega) (by omega)).mono ?_; rintro e w' ⟨rfl, rfl⟩) | (refine (in_no _ _ _ _ (by omega)).mono ?_; rintro e w' ⟨rfl, rfl⟩)); go_ret; exact ⟨(by first | rfl | (simp; done) | (simp [*]; done) | (rw [if_pos (by omega)]; first | rfl | (simp; done)) | (rw [if_neg (by omega)]; first | rfl | (simp; done)) | (simp; omega)), (by repeat (first | exact Below.refl _ _ | apply below_alloc | apply pw_below_drewN | apply below_drew1 | (refine Below.setCell ?_ (by first | (simp; done) | (simp; omega) | omega) _) ))⟩
set_option maxHeartbeats 1000000 in
set_option maxRecDepth 100000 in
theorem fault_else (k : Int) (bx : ByteArray) (u f : Int) (to_ tx : ByteArray) (w : World) (hk : k < 1 ∨ 6 < k) :
    Calls Tryd.prog 53 #[.agg #[.int .i64 k, .string bx, .int .i64 u, .int .i64 f, .string to_, .string tx]] w fun e w' => e = .returned (.int .i64 (entryFault ⟨k, bx, u, f, to_, tx⟩)) ∧ Below w.heap.size w w' := by
  rw [ef_kind (x := ⟨k, bx, u, f, to_, tx⟩) hk]
  go_enter Tryd.func53, Tryd.ntmps53
  go_wp2_with (go_at_call 52; first | (refine (in_yes _ _ _ _ (by omega) (by omega)).mono ?_; rintro e w' ⟨rfl, rfl⟩) | (refine (in_no _ _ _ _ (by omega)).mono ?_; rintro e w' ⟨rfl, rfl⟩))
  go_ret
  exact ⟨(by first | rfl | (simp; done) | (simp [*]; done) | (rw [if_pos (by omega)]; first | rfl | (simp; done)) | (rw [if_neg (by omega)]; first | rfl | (simp; done)) | (simp; omega)), (by repeat (first | exact Below.refl _ _ | apply below_alloc | apply pw_below_drewN | apply below_drew1 | (refine Below.setCell ?_ (by first | (simp; done) | (simp; omega) | omega) _) ))⟩
theorem entryFault_calls (x : AEntry) (w : World) (hb : x.box.size ≤ 1048576) (ht : x.to_.size ≤ 1048576) (hx : x.text.size ≤ 1048576) :
    Calls Tryd.prog 53 #[.agg #[.int .i64 x.kind, .string x.box, .int .i64 x.uid, .int .i64 x.flags, .string x.to_, .string x.text]] w fun e w' => e = .returned (.int .i64 (entryFault x)) ∧ Below w.heap.size w w' := by
  obtain ⟨k, bx, u, f, to_, tx⟩ := x
  rcases (by omega : (k < 1 ∨ 6 < k) ∨ k = 1 ∨ k = 2 ∨ k = 3 ∨ k = 4 ∨ k = 5 ∨ k = 6) with h | rfl | rfl | rfl | rfl | rfl | rfl
  · exact fault_else k bx u f to_ tx w h
  · exact fault_1 bx u f to_ tx w hb ht hx
  · exact fault_2 bx u f to_ tx w hb ht hx
  · exact fault_3 bx u f to_ tx w hb ht hx
  · exact fault_4 bx u f to_ tx w hb ht hx
  · exact fault_5 bx u f to_ tx w hb ht hx
  · exact fault_6 bx u f to_ tx w hb ht hx
end Go.Proofs.YtijdghplfhfpaaaDoor.H

/- Batches: the walks of batch, book.Check and the reference's BatchFault. -/
namespace Go.Proofs.YtijdghplfhfpaaaDoor.H
open Go.RowKit Go.Proofs.YtijdghplfhfpaaaDoorW.PrintWords Go.Proofs.YtijdghplfhfpaaaDoorW.PrintLast Go.Proofs.YtijdghplfhfpaaaDoor.U
set_option linter.unusedVariables false
set_option linter.unusedSimpArgs false
theorem rowAEntry : RowT Tryd.prog kAEntry 23 40 72 (.agg #[.int .i64 0, .string ⟨#[]⟩, .int .i64 0, .int .i64 0, .string ⟨#[]⟩, .string ⟨#[]⟩]) :=
  ⟨Tryd.underlying23, by kernel_rfl, rfl, by decide, by decide, flat_kd⟩
set_option maxHeartbeats 1000000 in
set_option maxRecDepth 100000 in
theorem entries_calls (A : Option Addr) (c : Nat) (l : List AEntry) (w : World) (hr : Kd.C kAEntry w A l.length l) (hl : l.length * 72 ≤ 140737488355328) :
    Calls Tryd.prog 18 #[.slice A l.length c] w fun e w' => ∃ A1 c1, e = .returned (.slice A1 l.length c1) ∧ Kd.R kAEntry 40 w' w.heap.size (fun _ => True) (.slice A1 l.length c1) l ∧ Below w.heap.size w w' := by
  go_enter Tryd.func18, Tryd.ntmps18
  go_wp2_with (at_builtin; refine clone_list rowAEntry rfl _ _ rfl l A c rfl rfl hr hl ?_; intro A1 c1 w1 hR hb1)
  go_ret
  exact ⟨A1, c1, rfl, hR, hb1⟩
def firstFault : List AEntry → Int
  | [] => 0
  | x :: l => if entryFault x = 0 then firstFault l else entryFault x
def batchFault (u : Int) (l : List AEntry) : Int := if u < 0 ∨ 2 < u then 6 else if l.length < 1 ∨ 10 < l.length then 1 else firstFault l
theorem first_good {l : List AEntry} {k : Nat} (h : k < l.length) (h2 : entryFault l[k] = 0) : firstFault (l.drop k) = firstFault (l.drop (k + 1)) := by
  rw [List.drop_eq_getElem_cons h, firstFault, if_pos h2]
theorem first_bad {l : List AEntry} {k : Nat} (h : k < l.length) (h2 : ¬ entryFault l[k] = 0) : firstFault (l.drop k) = entryFault l[k] := by
  rw [List.drop_eq_getElem_cons h, firstFault, if_neg h2]
theorem first_end (l : List AEntry) : firstFault (l.drop l.length) = 0 := by rw [List.drop_length]; rfl
def okE (x : AEntry) : Prop := x.box.size ≤ 1048576 ∧ x.to_.size ≤ 1048576 ∧ x.text.size ≤ 1048576
set_option maxHeartbeats 1000000 in
set_option maxRecDepth 100000 in
theorem bookCheck_calls (u : Int) (A : Option Addr) (c : Nat) (l : List AEntry) (m : Int) (w : World) (hr : Kd.C kAEntry w A l.length l) (hs : ∀ x ∈ l, okE x) (hm : w.cell? ⟨6, 0, none⟩ = some (.int .i64 m)) (hg : 6 < w.heap.size) :
    Calls Tryd.prog 59 #[.agg #[.int .i64 u, .slice A l.length c]] w fun e w' => e = .returned (.int .i64 (batchFault u l)) ∧ Below w.heap.size w w' := by
  have h63 := hr.2.1
  by_cases hu : u < 0 ∨ 2 < u
  · rw [batchFault, if_pos hu]
    rcases hu with h | h
    · have u1 : u < 0 := h
      go_enter Tryd.func59, Tryd.ntmps59
      go_wp2_with (fail)
      go_ret
      exact ⟨(by first | rfl | (simp; done) | (simp [*]; done) | (rw [if_pos (by omega)]; first | rfl | (simp; done)) | (rw [if_neg (by omega)]; first | rfl | (simp; done)) | (simp; omega)), (by repeat (first | exact Below.refl _ _ | apply below_alloc | apply pw_below_drewN | apply below_drew1 | (refine Below.setCell ?_ (by first | (simp; done) | (simp; omega) | omega) _) ))⟩
    · have u1 : ¬ u < 0 := by omega
      have u2 : 3 ≤ u := by omega
      go_enter Tryd.func59, Tryd.ntmps59
      go_wp2_with (fail)
      go_ret
      exact ⟨(by first | rfl | (simp; done) | (simp [*]; done) | (rw [if_pos (by omega)]; first | rfl | (simp; done)) | (rw [if_neg (by omega)]; first | rfl | (simp; done)) | (simp; omega)), (by repeat (first | exact Below.refl _ _ | apply below_alloc | apply pw_below_drewN | apply below_drew1 | (refine Below.setCell ?_ (by first | (simp; done) | (simp; omega) | omega) _) ))⟩
  · have u1 : ¬ u < 0 := by omega
    have u2 : ¬ 3 ≤ u := by omega
    have u3 : 0 ≤ u := by omega
    have u4 : u ≤ 2 := by omega
    by_cases hl : l.length < 1 ∨ 10 < l.length
    · rw [batchFault, if_neg hu, if_pos hl]
      rcases hl with h | h
      · have l1 : (l.length : Int) < 1 := by omega
        go_enter Tryd.func59, Tryd.ntmps59
        go_wp2_with (fail)
        go_ret
        exact ⟨(by first | rfl | (simp; done) | (simp [*]; done) | (rw [if_pos (by omega)]; first | rfl | (simp; done)) | (rw [if_neg (by omega)]; first | rfl | (simp; done)) | (simp; omega)), (by repeat (first | exact Below.refl _ _ | apply below_alloc | apply pw_below_drewN | apply below_drew1 | (refine Below.setCell ?_ (by first | (simp; done) | (simp; omega) | omega) _) ))⟩
      · have l1 : ¬ (l.length : Int) < 1 := by omega
        have l2 : (10 : Int) < (l.length : Int) := by omega
        go_enter Tryd.func59, Tryd.ntmps59
        go_wp2_with (fail)
        go_ret
        exact ⟨(by first | rfl | (simp; done) | (simp [*]; done) | (rw [if_pos (by omega)]; first | rfl | (simp; done)) | (rw [if_neg (by omega)]; first | rfl | (simp; done)) | (simp; omega)), (by repeat (first | exact Below.refl _ _ | apply below_alloc | apply pw_below_drewN | apply below_drew1 | (refine Below.setCell ?_ (by first | (simp; done) | (simp; omega) | omega) _) ))⟩
    · rw [batchFault, if_neg hu, if_neg hl]
      have l1 : ¬ (l.length : Int) < 1 := by omega
      have l2 : ¬ (10 : Int) < (l.length : Int) := by omega
      have l3 : (1 : Int) ≤ (l.length : Int) := by omega
      have l4 : (l.length : Int) ≤ 10 := by omega
      clear hu hl
      generalize hR : firstFault l = R
      go_enter Tryd.func59, Tryd.ntmps59
      go_wp2_with (fail)
      go_loopw [27] (fun v wr => ∃ k : Nat, k ≤ l.length ∧ v = .int .i64 k ∧ firstFault (l.drop k) = R ∧ Blk wr w.heap.size [.int .i64 u, .slice A l.length c] ∧ Below w.heap.size w wr) (fun v _ => l.length - (intOf v).toNat)
      case atStart => exact ⟨0, Nat.zero_le _, rfl, hR, Blk.made w #[.int .i64 u, .slice A l.length c] _, (by repeat (first | exact Below.refl _ _ | apply below_alloc | apply pw_below_drewN | apply below_drew1 | (refine Below.setCell ?_ (by first | (simp; done) | (simp; omega) | omega) _) ))⟩
      case round =>
        clear hR
        obtain ⟨k, hk, rfl, hR, hblk, hB⟩ := hrel
        have hz := hblk.lt
        have m1 := hblk.at 1 _ rfl
        by_cases hlt : k < l.length
        · obtain ⟨ad, e1, hx0, hxj⟩ := flat_at (Kd.C_below hr hB) k hlt
          subst e1
          have q0 := hx0 _ rfl; have q1 := hxj 1 _ (by decide) rfl; have q2 := hxj 2 _ (by decide) rfl; have q3 := hxj 3 _ (by decide) rfl; have q4 := hxj 4 _ (by decide) rfl; have q5 := hxj 5 _ (by decide) rfl
          clear hx0 hxj
          have hg1 := fun h => first_good hlt h
          have hb1 := fun h => first_bad hlt h
          rw [hR] at hg1 hb1
          obtain ⟨s1, s2, s3⟩ := hs _ (List.getElem_mem hlt)
          have i0 : (0 : Int) ≤ (k : Int) := by omega
          have i1 : (k : Int) < (l.length : Int) := by omega
          generalize l[k] = x at *
          have HF := fun w hm hg => form_calls x m w s1 s2 s3 hm hg
          by_cases hf : entryFault x = 0
          · have hn := hg1 hf
            rw [hf] at HF
            have HF := Lib.hid HF
            have hn := Lib.hid hn
            clear hg1 hb1 hf hR
            go_wp2_with (fail)
            refine (HF.out _ (cell_below (B := wr.heap.size) (by repeat (first | exact Below.refl _ _ | apply below_alloc | apply pw_below_drewN | apply below_drew1 | (refine Below.setCell ?_ (by first | (simp; done) | (simp; omega) | omega) _) )) (cell_below hB hm hg) (by omega)) (by first | (simp; done) | (simp; omega) | omega)).mono ?_
            rintro e w2 ⟨rfl, hc2⟩
            have hb2 : Below wr.heap.size wr w2 := (by repeat (first | exact Below.refl _ _ | apply below_alloc | apply pw_below_drewN | apply below_drew1 | (refine Below.setCell ?_ (by first | (simp; done) | (simp; omega) | omega) _) | (refine below_then ?_ (by first | (simp; done) | (simp; omega) | omega) hc2)))
            have hblk2 := hblk.below hb2 hz
            have hB2 := hB.trans (hb2.mono (by omega))
            clear hc2 hb2 hblk
            go_wp2_with fail
            go_roundw
            case rel => exact ⟨k + 1, hlt, by go_num, hn.out.symm, hblk2, hB2⟩
            case measure => simp [intOf]; omega
          · have hn := hb1 hf
            generalize entryFault x = f at *
            have hfb : (f != 0) = true := by simp [hf]
            subst hn
            have HF := Lib.hid HF
            clear hg1 hb1 hf hR
            go_wp2_with (fail)
            refine (HF.out _ (cell_below (B := wr.heap.size) (by repeat (first | exact Below.refl _ _ | apply below_alloc | apply pw_below_drewN | apply below_drew1 | (refine Below.setCell ?_ (by first | (simp; done) | (simp; omega) | omega) _) )) (cell_below hB hm hg) (by omega)) (by first | (simp; done) | (simp; omega) | omega)).mono ?_
            rintro e w2 ⟨rfl, hc2⟩
            have hb2 : Below wr.heap.size wr w2 := (by repeat (first | exact Below.refl _ _ | apply below_alloc | apply pw_below_drewN | apply below_drew1 | (refine Below.setCell ?_ (by first | (simp; done) | (simp; omega) | omega) _) | (refine below_then ?_ (by first | (simp; done) | (simp; omega) | omega) hc2)))
            have hblk2 := hblk.below hb2 hz
            have hB2 := hB.trans (hb2.mono (by omega))
            clear hc2 hb2 hblk
            go_wp2_with fail
            go_ret
            exact ⟨(by first | rfl | (simp; done) | (simp [*]; done) | (rw [if_pos (by omega)]; first | rfl | (simp; done)) | (rw [if_neg (by omega)]; first | rfl | (simp; done)) | (simp; omega)), (by repeat (first | exact Below.refl _ _ | apply below_alloc | apply pw_below_drewN | apply below_drew1 | (refine Below.setCell ?_ (by first | (simp; done) | (simp; omega) | omega) _) | exact hB2))⟩
        · obtain rfl : k = l.length := by omega
          rw [first_end] at hR
          subst hR
          have i1 : ¬ (l.length : Int) < (l.length : Int) := by omega
          go_wp2_with (fail)
          go_ret
          exact ⟨(by first | rfl | (simp; done) | (simp [*]; done) | (rw [if_pos (by omega)]; first | rfl | (simp; done)) | (rw [if_neg (by omega)]; first | rfl | (simp; done)) | (simp; omega)), (by repeat (first | exact Below.refl _ _ | apply below_alloc | apply pw_below_drewN | apply below_drew1 | (refine Below.setCell ?_ (by first | (simp; done) | (simp; omega) | omega) _) | exact hB))⟩
set_option maxHeartbeats 1000000 in
set_option maxRecDepth 100000 in
theorem batchFault_calls (u : Int) (A : Option Addr) (c : Nat) (l : List AEntry)  (w : World) (hr : Kd.C kAEntry w A l.length l) (hs : ∀ x ∈ l, okE x)  :
    Calls Tryd.prog 60 #[.agg #[.int .i64 u, .slice A l.length c]] w fun e w' => e = .returned (.int .i64 (batchFault u l)) ∧ Below w.heap.size w w' := by
  have h63 := hr.2.1
  by_cases hu : u < 0 ∨ 2 < u
  · rw [batchFault, if_pos hu]
    rcases hu with h | h
    · have u1 : u < 0 := h
      go_enter Tryd.func60, Tryd.ntmps60
      go_wp2_with ((go_at_call 52; first | (refine (in_yes _ _ _ _ (by omega) (by omega)).mono ?_; rintro e w' ⟨rfl, rfl⟩) | (refine (in_no _ _ _ _ (by omega)).mono ?_; rintro e w' ⟨rfl, rfl⟩)))
      go_ret
      exact ⟨(by first | rfl | (simp; done) | (simp [*]; done) | (rw [if_pos (by omega)]; first | rfl | (simp; done)) | (rw [if_neg (by omega)]; first | rfl | (simp; done)) | (simp; omega)), (by repeat (first | exact Below.refl _ _ | apply below_alloc | apply pw_below_drewN | apply below_drew1 | (refine Below.setCell ?_ (by first | (simp; done) | (simp; omega) | omega) _) ))⟩
    · have u1 : ¬ u < 0 := by omega
      have u2 : 3 ≤ u := by omega
      go_enter Tryd.func60, Tryd.ntmps60
      go_wp2_with ((go_at_call 52; first | (refine (in_yes _ _ _ _ (by omega) (by omega)).mono ?_; rintro e w' ⟨rfl, rfl⟩) | (refine (in_no _ _ _ _ (by omega)).mono ?_; rintro e w' ⟨rfl, rfl⟩)))
      go_ret
      exact ⟨(by first | rfl | (simp; done) | (simp [*]; done) | (rw [if_pos (by omega)]; first | rfl | (simp; done)) | (rw [if_neg (by omega)]; first | rfl | (simp; done)) | (simp; omega)), (by repeat (first | exact Below.refl _ _ | apply below_alloc | apply pw_below_drewN | apply below_drew1 | (refine Below.setCell ?_ (by first | (simp; done) | (simp; omega) | omega) _) ))⟩
  · have u1 : ¬ u < 0 := by omega
    have u2 : ¬ 3 ≤ u := by omega
    have u3 : 0 ≤ u := by omega
    have u4 : u ≤ 2 := by omega
    by_cases hl : l.length < 1 ∨ 10 < l.length
    · rw [batchFault, if_neg hu, if_pos hl]
      rcases hl with h | h
      · have l1 : (l.length : Int) < 1 := by omega
        go_enter Tryd.func60, Tryd.ntmps60
        go_wp2_with ((go_at_call 52; first | (refine (in_yes _ _ _ _ (by omega) (by omega)).mono ?_; rintro e w' ⟨rfl, rfl⟩) | (refine (in_no _ _ _ _ (by omega)).mono ?_; rintro e w' ⟨rfl, rfl⟩)))
        go_ret
        exact ⟨(by first | rfl | (simp; done) | (simp [*]; done) | (rw [if_pos (by omega)]; first | rfl | (simp; done)) | (rw [if_neg (by omega)]; first | rfl | (simp; done)) | (simp; omega)), (by repeat (first | exact Below.refl _ _ | apply below_alloc | apply pw_below_drewN | apply below_drew1 | (refine Below.setCell ?_ (by first | (simp; done) | (simp; omega) | omega) _) ))⟩
      · have l1 : ¬ (l.length : Int) < 1 := by omega
        have l2 : (10 : Int) < (l.length : Int) := by omega
        go_enter Tryd.func60, Tryd.ntmps60
        go_wp2_with ((go_at_call 52; first | (refine (in_yes _ _ _ _ (by omega) (by omega)).mono ?_; rintro e w' ⟨rfl, rfl⟩) | (refine (in_no _ _ _ _ (by omega)).mono ?_; rintro e w' ⟨rfl, rfl⟩)))
        go_ret
        exact ⟨(by first | rfl | (simp; done) | (simp [*]; done) | (rw [if_pos (by omega)]; first | rfl | (simp; done)) | (rw [if_neg (by omega)]; first | rfl | (simp; done)) | (simp; omega)), (by repeat (first | exact Below.refl _ _ | apply below_alloc | apply pw_below_drewN | apply below_drew1 | (refine Below.setCell ?_ (by first | (simp; done) | (simp; omega) | omega) _) ))⟩
    · rw [batchFault, if_neg hu, if_neg hl]
      have l1 : ¬ (l.length : Int) < 1 := by omega
      have l2 : ¬ (10 : Int) < (l.length : Int) := by omega
      have l3 : (1 : Int) ≤ (l.length : Int) := by omega
      have l4 : (l.length : Int) ≤ 10 := by omega
      clear hu hl
      generalize hR : firstFault l = R
      go_enter Tryd.func60, Tryd.ntmps60
      go_wp2_with ((go_at_call 52; first | (refine (in_yes _ _ _ _ (by omega) (by omega)).mono ?_; rintro e w' ⟨rfl, rfl⟩) | (refine (in_no _ _ _ _ (by omega)).mono ?_; rintro e w' ⟨rfl, rfl⟩)))
      go_loopw [3] (fun v wr => ∃ k : Nat, k ≤ l.length ∧ v = .int .i64 k ∧ firstFault (l.drop k) = R ∧ Blk wr w.heap.size [.int .i64 u, .slice A l.length c] ∧ Below w.heap.size w wr) (fun v _ => l.length - (intOf v).toNat)
      case atStart => exact ⟨0, Nat.zero_le _, rfl, hR, Blk.made w #[.int .i64 u, .slice A l.length c] _, (by repeat (first | exact Below.refl _ _ | apply below_alloc | apply pw_below_drewN | apply below_drew1 | (refine Below.setCell ?_ (by first | (simp; done) | (simp; omega) | omega) _) ))⟩
      case round =>
        clear hR
        obtain ⟨k, hk, rfl, hR, hblk, hB⟩ := hrel
        have hz := hblk.lt
        have m1 := hblk.at 1 _ rfl
        by_cases hlt : k < l.length
        · obtain ⟨ad, e1, hx0, hxj⟩ := flat_at (Kd.C_below hr hB) k hlt
          subst e1
          have q0 := hx0 _ rfl; have q1 := hxj 1 _ (by decide) rfl; have q2 := hxj 2 _ (by decide) rfl; have q3 := hxj 3 _ (by decide) rfl; have q4 := hxj 4 _ (by decide) rfl; have q5 := hxj 5 _ (by decide) rfl
          clear hx0 hxj
          have hg1 := fun h => first_good hlt h
          have hb1 := fun h => first_bad hlt h
          rw [hR] at hg1 hb1
          obtain ⟨s1, s2, s3⟩ := hs _ (List.getElem_mem hlt)
          have i0 : (0 : Int) ≤ (k : Int) := by omega
          have i1 : (k : Int) < (l.length : Int) := by omega
          generalize l[k] = x at *
          have HF := fun w => entryFault_calls x w s1 s2 s3
          by_cases hf : entryFault x = 0
          · have hn := hg1 hf
            rw [hf] at HF
            have HF := Lib.hid HF
            have hn := Lib.hid hn
            clear hg1 hb1 hf hR
            go_wp2_with ((go_at_call 52; first | (refine (in_yes _ _ _ _ (by omega) (by omega)).mono ?_; rintro e w' ⟨rfl, rfl⟩) | (refine (in_no _ _ _ _ (by omega)).mono ?_; rintro e w' ⟨rfl, rfl⟩)))
            refine (HF.out _).mono ?_
            rintro e w2 ⟨rfl, hb2⟩
            have hblk2 := hblk.below hb2 hz
            have hB2 := hB.trans (hb2.mono (by omega))
            clear hb2 hblk
            go_wp2_with fail
            go_roundw
            case rel => exact ⟨k + 1, hlt, by go_num, hn.out.symm, hblk2, hB2⟩
            case measure => simp [intOf]; omega
          · have hn := hb1 hf
            generalize entryFault x = f at *
            have hfb : (f != 0) = true := by simp [hf]
            subst hn
            have HF := Lib.hid HF
            clear hg1 hb1 hf hR
            go_wp2_with ((go_at_call 52; first | (refine (in_yes _ _ _ _ (by omega) (by omega)).mono ?_; rintro e w' ⟨rfl, rfl⟩) | (refine (in_no _ _ _ _ (by omega)).mono ?_; rintro e w' ⟨rfl, rfl⟩)))
            refine (HF.out _).mono ?_
            rintro e w2 ⟨rfl, hb2⟩
            have hblk2 := hblk.below hb2 hz
            have hB2 := hB.trans (hb2.mono (by omega))
            clear hb2 hblk
            go_wp2_with fail
            go_ret
            exact ⟨(by first | rfl | (simp; done) | (simp [*]; done) | (rw [if_pos (by omega)]; first | rfl | (simp; done)) | (rw [if_neg (by omega)]; first | rfl | (simp; done)) | (simp; omega)), (by repeat (first | exact Below.refl _ _ | apply below_alloc | apply pw_below_drewN | apply below_drew1 | (refine Below.setCell ?_ (by first | (simp; done) | (simp; omega) | omega) _) | exact hB2))⟩
        · obtain rfl : k = l.length := by omega
          rw [first_end] at hR
          subst hR
          have i1 : ¬ (l.length : Int) < (l.length : Int) := by omega
          go_wp2_with ((go_at_call 52; first | (refine (in_yes _ _ _ _ (by omega) (by omega)).mono ?_; rintro e w' ⟨rfl, rfl⟩) | (refine (in_no _ _ _ _ (by omega)).mono ?_; rintro e w' ⟨rfl, rfl⟩)))
          go_ret
          exact ⟨(by first | rfl | (simp; done) | (simp [*]; done) | (rw [if_pos (by omega)]; first | rfl | (simp; done)) | (rw [if_neg (by omega)]; first | rfl | (simp; done)) | (simp; omega)), (by repeat (first | exact Below.refl _ _ | apply below_alloc | apply pw_below_drewN | apply below_drew1 | (refine Below.setCell ?_ (by first | (simp; done) | (simp; omega) | omega) _) | exact hB))⟩
set_option maxHeartbeats 1000000 in
set_option maxRecDepth 100000 in
theorem batch_calls (u : Int) (A : Option Addr) (c : Nat) (l : List AEntry) (w : World) (hr : Kd.C kAEntry w A l.length l) (hl : l.length * 72 ≤ 140737488355328) :
    Calls Tryd.prog 58 #[.agg #[.int .i64 u, .slice A l.length c]] w fun e w' => ∃ A1 c1, e = .returned (.agg #[.int .i64 u, .slice A1 l.length c1]) ∧ Kd.R kAEntry 40 w' w.heap.size (fun _ => True) (.slice A1 l.length c1) l ∧ Below w.heap.size w w' := by
  have HE := Lib.hid (fun w hr => entries_calls A c l w hr hl)
  go_enter Tryd.func58, Tryd.ntmps58
  go_wp2_with fail
  go_region_held3 (fun w' => w'.cell? ⟨w.heap.size, 0, none⟩ = some (.int .i64 u) ∧ w'.cell? ⟨w.heap.size, 1, none⟩ = some (.slice A l.length c))
    (first | go_keep | (refine ⟨?_, ?_⟩ <;> (rw [hc _ _ (by simp; omega)]; simp)))
    ((go_at_call 18; refine (HE.out _ (Kd.C_below hr (by repeat (first | exact Below.refl _ _ | apply below_alloc | apply pw_below_drewN | apply below_drew1)))).mono ?_; rintro e w1 ⟨A1, c1, rfl, hR, hb1⟩; obtain ⟨hc, hf⟩ := bcell hb1))
  go_wp2
  have hz := hb1.size
  simp at hz
  refine bodyPost_ret (v := .agg #[.int .i64 u, .slice A1 l.length c1]) (by simp [results, Tryd.results58, go_sem, hc]) rfl ⟨_, _, rfl, ?_, ?_⟩
  · exact Kd.R_lower (R_elder (R_elder hR (by simp) _) (by simp) _) (by simp; omega)
  · exact ((((((Below.refl w.heap.size w).alloc (Nat.le_refl _) _).alloc (by simp) _).drew).trans (hb1.mono (by simp; omega))).setCell (by simp) _).setCell (by simp) _
end Go.Proofs.YtijdghplfhfpaaaDoor.H

/- Boxes: rows of boxes that a call owns; copies of states. -/
namespace Go.Proofs.YtijdghplfhfpaaaDoor.H
open Go.RowKit Go.Proofs.YtijdghplfhfpaaaDoorW.PrintWords Go.Proofs.YtijdghplfhfpaaaDoorW.PrintLast Go.Proofs.YtijdghplfhfpaaaDoor.U
set_option linter.unusedVariables false
set_option linter.unusedSimpArgs false
theorem rowAMail : RowT Tryd.prog kAMail 75 84 32 (.agg #[.int .i64 0, .int .i64 0, .string ⟨#[]⟩]) :=
  ⟨Tryd.underlying75, by kernel_rfl, rfl, by decide, by decide, flat_kd⟩
theorem S_elder {α : Type} {d : Kd α} {e base : Nat} {w : World} {v : Value} {xs : List α} (h : Kd.S d e w base (fun _ => True) v xs) {p : Addr} (hp : p.block < base) (u : Value) : Kd.S d e (w.setCell p u) base (fun _ => True) v xs :=
  Kd.S_mono (Kd.S_far (Kd.S_bound h) (fun k hk he => by have := hk.2.1; omega) u) (fun _ _ => trivial)
section
variable {ops : Array Oper} {rest : List Oper} {o : Oper} {a : Act} {Q : Exit → Act → World → Prop}
/-- append(v, box), the box's mails in a row that was made later. -/
theorem snocS_list (base base2 : Nat) {W : World} (hgd : o.guard = none) (s x : Operand)
    (ho : o.op = .call { callee := .builtin .append, args := #[s, x], argTypes := #[22, 22] })
    (v : Value) (xs : List ABox) (nm : ByteArray) (nx : Int) (l : List AMail) (vb : Value) (hs : a.eval s = v) (hx : a.eval x = .slice (some ⟨W.heap.size, 0, none⟩) 1 1)
    (hM : Kd.R kAMail 84 W base2 (fun _ => True) vb l) (hb2 : base ≤ base2)
    (HO : Kd.S kBox 77 W base (fun k => k < base2) v xs) (hbase : base ≤ W.heap.size) (hl : (xs.length + 1) * 48 ≤ 140737488355328)
    (h : ∀ v1 w1, Kd.S kBox 77 w1 base (fun _ => True) v1 (xs ++ [(nm, nx, l)]) → Below base W w1 → wpList Tryd.prog ops Q rest (a.put o.dst v1) w1) :
    wpList Tryd.prog ops Q (o :: rest) a (W.alloc (.cells #[.string nm, .int .i64 nx, vb] 77)) :=
  Kd.S_append kBox (w0 := W) base hgd s x 22 77 (.agg #[.string ⟨#[]⟩, .int .i64 0, .slice none 0 0]) 48 ho Tryd.underlying22 (by kernel_rfl) rfl (by decide) (by decide) v xs (nm, nx, l) [.string nm, .int .i64 nx, vb] (fun _ => True) (fun k => base2 ≤ k) hs hx
    ⟨[.string nm], [.int .i64 nx, vb], rfl, rfl, ⟨[.int .i64 nx], [vb], rfl, rfl, ⟨vb, rfl, Kd.R_mono (Kd.R_lower (Kd.R_bound hM) hb2) (fun k hk => hk.2.1)⟩⟩⟩
    (fun k hk => ⟨trivial, fun he => by
      obtain ⟨f, hR⟩ := HO
      have := hR.1 k he.symm
      omega⟩) (fun _ _ => trivial) (Kd.S_mono HO (fun k hk => ⟨trivial, by show ¬ base2 ≤ k; omega⟩)) (Below.refl _ _) hbase hl (fun v1 w1 hR hb _ _ => h v1 w1 hR hb)
end
/-- An elder row of boxes beside what was made since. -/
theorem S_since {w w1 : World} {base : Nat} {v : Value} {xs : List ABox} (h : Kd.S kBox 77 w base (fun _ => True) v xs) (hb : Below w.heap.size w w1) : Kd.S kBox 77 w1 base (fun k => k < w.heap.size) v xs :=
  Kd.S_mono (Kd.S_old h hb) (fun _ hk => hk.2)
theorem boxes_take {bs : List ABox} {k : Nat} {nm : ByteArray} {nx : Int} {l : List AMail} (h : k < bs.length) (hb : bs[k] = (nm, nx, l)) : bs.take (k + 1) = bs.take k ++ [(nm, nx, l)] := by
  rw [List.take_succ_eq_append_getElem h, hb]
end Go.Proofs.YtijdghplfhfpaaaDoor.H

/- Boxes: a row of boxes that a call owns, a box of it written. -/
namespace Go.Proofs.YtijdghplfhfpaaaDoor.H
open Go.RowKit Go.Proofs.YtijdghplfhfpaaaDoorW.PrintWords Go.Proofs.YtijdghplfhfpaaaDoorW.PrintLast Go.Proofs.YtijdghplfhfpaaaDoor.U
set_option linter.unusedVariables false
set_option linter.unusedSimpArgs false
section
variable {w w1 : World} {base g n cap i pb : Nat} {bs : List ABox} {es : List AEntry} {ok oki : Nat → Prop} {nm : ByteArray} {nx nx' : Int} {vM v1 : Value} {l : List AMail}
theorem box_lend (h : Kd.S kBox 77 w base ok (.slice (some ⟨g, 0, none⟩) n cap) bs) (hi : i < bs.length) (hb : bs[i] = (nm, nx, l)) :
    ∃ oki vM, w.cell? ⟨g, i * 3, none⟩ = some (.string nm) ∧ w.cell? ⟨g, i * 3 + 1, none⟩ = some (.int .i64 nx) ∧ w.cell? ⟨g, i * 3 + 2, none⟩ = some vM ∧ w.frozen? ⟨g, i * 3 + 1, none⟩ = false ∧ w.frozen? ⟨g, i * 3 + 2, none⟩ = false ∧
      Kd.R kAMail 84 w base oki vM l ∧ (∀ k, oki k → ok k ∧ k ≠ g) ∧ Kd.H kBox 77 w base ok (.slice (some ⟨g, 0, none⟩) n cap) bs i oki [.string nm, .int .i64 nx, vM] := by
  obtain ⟨hn, _, _⟩ := Kd.S_reads' h
  obtain ⟨oki, c, hcl, hM, hcc, hfr, hoki, hH⟩ := Kd.S_elem h (nm, nx, l) (i : Int) (by omega) (by omega)
  rw [Int.toNat_natCast] at hM hcc hfr
  have hg : bs.getD i (nm, nx, l) = (nm, nx, l) := by rw [List.getD_eq_getElem?_getD, List.getElem?_eq_getElem hi, hb]; rfl
  rw [hg] at hM
  obtain ⟨c0, c1, hcs, h0, ⟨c2, c3, h1, h2, ⟨vM, h3, hR⟩⟩⟩ := hM
  have h0' : c0 = [.string nm] := h0
  have h2' : c2 = [.int .i64 nx] := h2
  subst h0' h2' h3 h1 hcs
  exact ⟨oki, vM, hcc 0 _ rfl, hcc 1 _ rfl, hcc 2 _ rfl, hfr 1, hfr 2, hR, hoki, hH⟩
theorem box_hole2 (h : Kd.H kBox 77 w base ok (.slice (some ⟨g, 0, none⟩) n cap) bs i oki [.string nm, .int .i64 nx, vM]) (hi : i < n) (h1 : v1.oneCell' = true) :
    Kd.H kBox 77 (w.setCell ⟨g, i * 3 + 2, none⟩ v1) base ok (.slice (some ⟨g, 0, none⟩) n cap) bs i oki [.string nm, .int .i64 nx, v1] :=
  (Kd.H_seg h (Int.natCast_nonneg i) (by omega) (seg := [v1]) (j := 2) (by show 2 + 1 ≤ 3; omega) (fun q hq => by rw [List.mem_singleton.1 hq]; exact h1)).1
theorem box_hole1 (h : Kd.H kBox 77 w base ok (.slice (some ⟨g, 0, none⟩) n cap) bs i oki [.string nm, .int .i64 nx, vM]) (hi : i < n) :
    Kd.H kBox 77 (w.setCell ⟨g, i * 3 + 1, none⟩ (.int .i64 nx')) base ok (.slice (some ⟨g, 0, none⟩) n cap) bs i oki [.string nm, .int .i64 nx', vM] :=
  (Kd.H_seg h (Int.natCast_nonneg i) (by omega) (seg := [.int .i64 nx']) (j := 1) (by show 1 + 1 ≤ 3; omega) (fun q hq => by rw [List.mem_singleton.1 hq]; rfl)).1
theorem box_back (h : Kd.H kBox 77 w base ok (.slice (some ⟨g, 0, none⟩) n cap) bs i oki [.string nm, .int .i64 nx, vM]) (hR : Kd.R kAMail 84 w base oki vM l) :
    Kd.S kBox 77 w base ok (.slice (some ⟨g, 0, none⟩) n cap) (bs.set i (nm, nx, l)) :=
  Kd.H_back h (okp := oki) ⟨[.string nm], [.int .i64 nx, vM], rfl, rfl, ⟨[.int .i64 nx], [vM], rfl, rfl, ⟨vM, rfl, hR⟩⟩⟩ (fun _ hk => hk)
/-- A state that a call owns: its two slices stand in block pb, beside its rows. -/
def StB (w : World) (base pb : Nat) (bs : List ABox) (es : List AEntry) : Prop :=
  ∃ vB vS, Blk w pb [vB, vS] ∧ base ≤ pb ∧ Kd.S kBox 77 w base (fun k => k ≠ pb) vB bs ∧ Kd.R kAEntry 40 w base (fun k => k ≠ pb) vS es
theorem StB.lt (h : StB w base pb bs es) : pb < w.heap.size := by obtain ⟨_, _, hb, _⟩ := h; exact hb.lt
theorem StB.bases (h : StB w base pb bs es) : base ≤ w.heap.size := by obtain ⟨_, _, hb, hp, _⟩ := h; have := hb.lt; omega
theorem StB.new (h : StB w base pb bs es) (hb : Below w.heap.size w w1) : StB w1 base pb bs es := by
  obtain ⟨vB, vS, hk, hp, hS, hR⟩ := h
  exact ⟨vB, vS, hk.below hb hk.lt, hp, Kd.S_below hS hb, Kd.R_below hR hb⟩
/-- What an append to a box's mails leaves of the rest of the state. -/
theorem entries_over {vS : Value} (h : Kd.R kAEntry 40 w base ok vS es) {okm : Nat → Prop} (hM : Kd.R kAMail 84 w base okm vM l) (hg : w.grownBy w1 vM.ownBlock) : Kd.R kAEntry 40 w1 base ok vS es :=
  Kd.R_over' h (Kd.R_typed hM) (by decide) hg
end
section
variable {ops : Array Oper} {o : Oper} {a : Act} {Q : Exit → Act → World → Prop} {Kc : Act → World → Prop}
/-- append(v, mail) in a region that draws, the row's blocks told. -/
theorem mail_step (base : Nat) {W : World} (hw : Region.wanted o (yielded ops a.tmps) = true) (s x : Operand)
    (ho : o.op = .call { callee := .builtin .append, args := #[s, x], argTypes := #[75, 75] })
    (v : Value) (xs : List AMail) (p : AMail) (ok : Nat → Prop) (hs : a.eval s = v) (hx : a.eval x = .slice (some ⟨W.heap.size, 0, none⟩) 1 1) (hfresh : ∀ k, W.heap.size ≤ k → ok k)
    (HO : Kd.R kAMail 84 W base ok v xs) (hbase : base ≤ W.heap.size) (hl : (xs.length + 1) * 32 ≤ 140737488355328)
    (h : ∀ v1 w1, Kd.R kAMail 84 w1 base ok v1 (xs ++ [p]) → Below base W w1 → W.grownBy w1 v.ownBlock → Kc (a.put o.dst v1) w1) :
    if Region.wanted o (yielded ops a.tmps) = true then Oper.wp Tryd.prog o a (W.alloc (.cells #[.int .i64 p.uid, .int .i64 p.flags, .string p.text] 84)) Kc Q else Kc (a.put o.dst undef) (W.alloc (.cells #[.int .i64 p.uid, .int .i64 p.flags, .string p.text] 84)) :=
  Kd.R_append_step kAMail (w0 := W) base hw s x 75 84 _ 32 ho rowAMail.ht rowAMail.hinfo rowAMail.hz rowAMail.hs0 rowAMail.hb0 v xs p [.int .i64 p.uid, .int .i64 p.flags, .string p.text] ok (fun _ => False) hs hx rfl (fun _ h => h.elim) hfresh HO (Below.refl _ _) hbase hl
    (fun v1 w1 hR hb hg _ => h v1 w1 hR hb hg)
end
end Go.Proofs.YtijdghplfhfpaaaDoor.H

/- Boxes: box.add. -/
namespace Go.Proofs.YtijdghplfhfpaaaDoor.H
open Go.RowKit Go.Proofs.YtijdghplfhfpaaaDoorW.PrintWords Go.Proofs.YtijdghplfhfpaaaDoorW.PrintLast Go.Proofs.YtijdghplfhfpaaaDoor.U
set_option linter.unusedVariables false
set_option linter.unusedSimpArgs false
theorem addV_full {bs : List ABox} {i : Nat} {fl : Int} {tx : ByteArray} {nm : ByteArray} {nx : Int} {l : List AMail} (hi : i < bs.length) (hb : bs[i] = (nm, nx, l)) (h : 30 ≤ l.length ∨ 1048576 < nx ∨ 6000 < stSize bs + tx.size) : addV bs i fl tx = (5, bs) := by
  unfold addV
  rw [List.getElem?_eq_getElem hi, hb]
  exact if_pos h
theorem addV_room {bs : List ABox} {i : Nat} {fl : Int} {tx : ByteArray} {nm : ByteArray} {nx : Int} {l : List AMail} (hi : i < bs.length) (hb : bs[i] = (nm, nx, l)) (h : ¬ (30 ≤ l.length ∨ 1048576 < nx ∨ 6000 < stSize bs + tx.size)) : addV bs i fl tx = (0, bs.set i (nm, nx + 1, l ++ [⟨nx, fl, tx⟩])) := by
  unfold addV
  rw [List.getElem?_eq_getElem hi, hb]
  exact if_neg h
set_option maxHeartbeats 2000000 in
set_option maxRecDepth 100000 in
theorem add_calls (pb i : Nat) (fl : Int) (tx : ByteArray) (base : Nat) (bs : List ABox) (es : List AEntry) (w : World) (h : StB w base pb bs es) (hinv : InvS bs es) (hi : i < bs.length) (htx : tx.size ≤ 2000) :
    Calls Tryd.prog 91 #[.pointer (some ⟨pb, 0, none⟩), .int .i64 i, .int .i64 fl, .string tx] w fun e w' => e = .returned (.int .i64 (addV bs i fl tx).1) ∧ StB w' base pb (addV bs i fl tx).2 es ∧ Below base w w' := by
  have hbase := h.bases
  have hpb := h.lt
  obtain ⟨vB, vS, hk, hp, hS, hE⟩ := h
  obtain ⟨g, cap, rfl, hgb, hgl, cells, hgc⟩ := Kd.S_form hS (by omega)
  obtain ⟨hn, hcap, hC⟩ := Kd.S_reads' hS
  obtain ⟨nm, nx, l, hb⟩ : ∃ nm nx l, bs[i] = (nm, nx, l) := ⟨_, _, _, rfl⟩
  have hgd : GoodB (nm, nx, l) := by rw [← hb]; exact hinv.2.2 _ (List.getElem_mem hi)
  obtain ⟨g1, g2, g3, g4, g5⟩ := hgd
  simp only at g1 g2 g3 g4 g5
  obtain ⟨oki, vM, x0, x1, x2, f1, f2, hR, hoki, hH⟩ := box_lend hS hi hb
  obtain ⟨Am, cm, rfl⟩ := Kd.R_slice hR
  have hng : g ≠ pb := fun he => by
    have h2 := Kd.S_R hS
    have := h2.1 g (by simp [Value.ownBlock])
    exact this he
  have hng2 : pb ≠ g := Ne.symm hng
  have b0 := hk.at 0 _ rfl
  have b1 := hk.at 1 _ rfl
  have i0 : (0 : Int) ≤ (i : Int) := by omega
  have i1 : (i : Int) < (bs.length : Int) := by omega
  have hsz : stSize bs ≤ 300000 := by
    have h2 := inv_size hinv.2.2
    have h3 : bs.length * 60000 ≤ 5 * 60000 := Nat.mul_le_mul_right _ hinv.1
    omega
  have ea : (⟨g, 0, none⟩ : Addr).add (i * 3) = ⟨g, i * 3, none⟩ := add_plain _ _
  have HZ := Lib.hid (fun W hr => size_calls (some ⟨g, 0, none⟩) cap bs vS W (by obtain ⟨A, c, hh⟩ := Kd.R_slice hE; exact ⟨A, _, c, hh⟩) hr (by omega))
  have hwr : IntKind.i64.wrap ((stSize bs : Int) + (tx.size : Int)) = (stSize bs : Int) + (tx.size : Int) := by rw [IntKind.wrap_i64]; omega
  obtain ⟨A3, c3, rfl⟩ := Kd.R_slice hE
  by_cases h30 : l.length = 30
  · rw [addV_full hi hb (.inl (by omega))]
    have hst : StB w base pb bs es := ⟨_, _, hk, hp, hS, hE⟩
    have e30 : ((l.length : Int) == 30) = true := by rw [beq_iff_eq]; omega
    clear hR hH hC hS hE
    go_enter Tryd.func91, Tryd.ntmps91
    go_wp2_with fail
    go_ret
    exact ⟨(by first | rfl | (simp; done) | (simp [*]; done) | (rw [if_pos (by omega)]; first | rfl | (simp; done)) | (rw [if_neg (by omega)]; first | rfl | (simp; done)) | (simp; omega)), hst, Below.refl _ _⟩
  · have e30 : ((l.length : Int) == 30) = false := by rw [beq_eq_false_iff_ne]; omega
    by_cases hnx : 1048576 < nx
    · rw [addV_full hi hb (.inr (.inl hnx))]
      have hst : StB w base pb bs es := ⟨_, _, hk, hp, hS, hE⟩
      clear hR hH hC hS hE h30
      go_enter Tryd.func91, Tryd.ntmps91
      go_wp2_with fail
      go_ret
      exact ⟨(by first | rfl | (simp; done) | (simp [*]; done) | (rw [if_pos (by omega)]; first | rfl | (simp; done)) | (rw [if_neg (by omega)]; first | rfl | (simp; done)) | (simp; omega)), hst, Below.refl _ _⟩
    · by_cases h6 : 6000 < stSize bs + tx.size
      · rw [addV_full hi hb (.inr (.inr h6))]
        have hst : StB w base pb bs es := ⟨_, _, hk, hp, hS, hE⟩
        have h6' : (6000 : Int) < (stSize bs : Int) + (tx.size : Int) := by omega
        generalize stSize bs = z at *
        clear hR hH hS hE h30
        go_enter Tryd.func91, Tryd.ntmps91
        go_wp2_with fail
        refine (HZ.out _ (by assumption)).mono ?_
        rintro e w1 ⟨rfl, hb1⟩
        go_wp2_with fail
        go_ret
        exact ⟨(by first | rfl | (simp; done) | (simp [*]; done) | (rw [if_pos (by omega)]; first | rfl | (simp; done)) | (rw [if_neg (by omega)]; first | rfl | (simp; done)) | (simp; omega)), hst.new hb1, hb1.mono hbase⟩
      · rw [addV_room hi hb (by intro h; rcases h with h | h | h <;> omega)]
        have h6' : ¬ (6000 : Int) < (stSize bs : Int) + (tx.size : Int) := by omega
        generalize stSize bs = z at *
        clear h30
        go_enter Tryd.func91, Tryd.ntmps91
        go_wp2_with fail
        refine (HZ.out _ (by assumption)).mono ?_
        rintro e w1 ⟨rfl, hb1⟩
        have hz1 := hb1.size
        have y1 := (hb1.cell (p := ⟨g, i * 3 + 1, none⟩) hgl).trans x1
        have y2 := (hb1.cell (p := ⟨g, i * 3 + 2, none⟩) hgl).trans x2
        have e1 := (hb1.frozen (p := ⟨g, i * 3 + 1, none⟩) hgl).trans f1
        have e2 := (hb1.frozen (p := ⟨g, i * 3 + 2, none⟩) hgl).trans f2
        have hH1 := Kd.H_widen (Kd.H_drew (Kd.H_below hH hb1))
        have hR1 : Kd.R kAMail 84 w1.drew base (fun k => oki k ∨ k ≠ pb ∧ w1.drew.heap.size ≤ k) (.slice Am l.length cm) l := Kd.R_mono (Kd.R_drew (Kd.R_below hR hb1)) (fun k hk => .inl hk)
        have hng3 : ∀ k, (oki k ∨ k ≠ pb ∧ w1.drew.heap.size ≤ k) → k ≠ g := fun k hk => by
          rcases hk with hk | hk
          · exact (hoki k hk).2
          · have := hk.2; simp at this; omega
        have hgo : some g ≠ (Value.slice Am l.length cm).ownBlock := fun he => hng3 g (hR1.1 g he.symm) rfl
        have hpo : some pb ≠ (Value.slice Am l.length cm).ownBlock := fun he => by
          rcases hR1.1 pb he.symm with h2 | h2
          · exact (hoki pb h2).1 rfl
          · exact h2.1 rfl
        go_wp2_with fail
        have y2a := cell_alloc' y2 (.cells #[.int .i64 nx, .int .i64 fl, .string tx] 84)
        have y2d := cell_drew' y2
        have y1d := cell_drew' y1
        refine wp_region_held_drew (S := fun w' => w'.cell? ⟨g, i * 3 + 1, none⟩ = some (.int .i64 nx)) (by kernel_rfl) ?_ (fun hHeld => ?_)
        · exact y1d
        refine wpAnyH_take (i := 0) (oi := { dst := some 39, op := _, type := _, pos := _, after := _, guard := _ }) (v := .pointer (some ⟨g, i * 3, none⟩)) rfl (by kernel_rfl) (by kernel_rfl) (by kernel_rfl) (fun _ _ _ h => h) (Or.inl ⟨by rfl, by (intro w hSw; (try dsimp only at hSw); first | (go_simp; done) | (go_simp; with_reducible rfl) | (go_simp; omega) | (go_simp; simp [*]; done))⟩) (by assumption) ?_; try simp only [Act.put, List.setIfInBounds_toArray, List.set_cons_zero, List.set_cons_succ]
        refine wpAnyH_take (i := 1) (oi := { dst := some 40, op := _, type := _, pos := _, after := _, guard := _ }) (v := .pointer (some ⟨g, i * 3, none⟩)) rfl (by kernel_rfl) (by kernel_rfl) (by kernel_rfl) (fun _ _ _ h => h) (Or.inl ⟨by rfl, by (intro w hSw; (try dsimp only at hSw); first | (go_simp; done) | (go_simp; with_reducible rfl) | (go_simp; omega) | (go_simp; simp [*]; done))⟩) (by assumption) ?_; try simp only [Act.put, List.setIfInBounds_toArray, List.set_cons_zero, List.set_cons_succ]
        refine wpAnyH_take (i := 2) (oi := { dst := some 41, op := _, type := _, pos := _, after := _, guard := _ }) (v := .pointer (some ⟨g, i * 3, none⟩)) rfl (by kernel_rfl) (by kernel_rfl) (by kernel_rfl) (fun _ _ _ h => h) (Or.inl ⟨by rfl, by (intro w hSw; (try dsimp only at hSw); first | (go_simp; done) | (go_simp; with_reducible rfl) | (go_simp; omega) | (go_simp; simp [*]; done))⟩) (by assumption) ?_; try simp only [Act.put, List.setIfInBounds_toArray, List.set_cons_zero, List.set_cons_succ]
        refine wpAnyH_take (i := 3) (oi := { dst := some 42, op := _, type := _, pos := _, after := _, guard := _ }) (v := .pointer (some ⟨g, i * 3 + 2, none⟩)) rfl (by kernel_rfl) (by kernel_rfl) (by kernel_rfl) (fun _ _ _ h => h) (Or.inl ⟨by rfl, by (intro w hSw; (try dsimp only at hSw); first | (go_simp; done) | (go_simp; with_reducible rfl) | (go_simp; omega) | (go_simp; simp [*]; done))⟩) (by assumption) ?_; try simp only [Act.put, List.setIfInBounds_toArray, List.set_cons_zero, List.set_cons_succ]
        refine wpAnyH_take (i := 5) (oi := { dst := some 44, op := _, type := _, pos := _, after := _, guard := _ }) (v := .pointer (some ⟨g, i * 3, none⟩)) rfl (by kernel_rfl) (by kernel_rfl) (by kernel_rfl) (fun _ _ _ h => h) (Or.inl ⟨by rfl, by (intro w hSw; (try dsimp only at hSw); first | (go_simp; done) | (go_simp; with_reducible rfl) | (go_simp; omega) | (go_simp; simp [*]; done))⟩) (by assumption) ?_; try simp only [Act.put, List.setIfInBounds_toArray, List.set_cons_zero, List.set_cons_succ]
        refine wpAnyH_take (i := 6) (oi := { dst := some 45, op := _, type := _, pos := _, after := _, guard := _ }) (v := .pointer (some ⟨g, i * 3, none⟩)) rfl (by kernel_rfl) (by kernel_rfl) (by kernel_rfl) (fun _ _ _ h => h) (Or.inl ⟨by rfl, by (intro w hSw; (try dsimp only at hSw); first | (go_simp; done) | (go_simp; with_reducible rfl) | (go_simp; omega) | (go_simp; simp [*]; done))⟩) (by assumption) ?_; try simp only [Act.put, List.setIfInBounds_toArray, List.set_cons_zero, List.set_cons_succ]
        refine wpAnyH_take (i := 7) (oi := { dst := some 46, op := _, type := _, pos := _, after := _, guard := _ }) (v := .pointer (some ⟨g, i * 3 + 1, none⟩)) rfl (by kernel_rfl) (by kernel_rfl) (by kernel_rfl) (fun _ _ _ h => h) (Or.inl ⟨by rfl, by (intro w hSw; (try dsimp only at hSw); first | (go_simp; done) | (go_simp; with_reducible rfl) | (go_simp; omega) | (go_simp; simp [*]; done))⟩) (by assumption) ?_; try simp only [Act.put, List.setIfInBounds_toArray, List.set_cons_zero, List.set_cons_succ]
        refine wpAnyH_take (i := 8) (oi := { dst := some 47, op := _, type := _, pos := _, after := _, guard := _ }) (v := .int .i64 nx) rfl (by kernel_rfl) (by kernel_rfl) (by kernel_rfl) (fun _ _ _ h => h) (Or.inl ⟨by rfl, by (intro w hSw; (try dsimp only at hSw); first | (go_simp; done) | (go_simp; with_reducible rfl) | (go_simp; omega) | (go_simp; simp [*]; done))⟩) (by assumption) ?_; try simp only [Act.put, List.setIfInBounds_toArray, List.set_cons_zero, List.set_cons_succ]
        refine wpAnyH_take (i := 9) (oi := { dst := some 48, op := _, type := _, pos := _, after := _, guard := _ }) (v := .int .i64 fl) rfl (by kernel_rfl) (by kernel_rfl) (by kernel_rfl) (fun _ _ _ h => h) (Or.inl ⟨by rfl, by (intro w hSw; (try dsimp only at hSw); first | (go_simp; done) | (go_simp; with_reducible rfl) | (go_simp; omega) | (go_simp; simp [*]; done))⟩) (by assumption) ?_; try simp only [Act.put, List.setIfInBounds_toArray, List.set_cons_zero, List.set_cons_succ]
        refine wpAnyH_take (i := 10) (oi := { dst := some 49, op := _, type := _, pos := _, after := _, guard := _ }) (v := .string tx) rfl (by kernel_rfl) (by kernel_rfl) (by kernel_rfl) (fun _ _ _ h => h) (Or.inl ⟨by rfl, by (intro w hSw; (try dsimp only at hSw); first | (go_simp; done) | (go_simp; with_reducible rfl) | (go_simp; omega) | (go_simp; simp [*]; done))⟩) (by assumption) ?_; try simp only [Act.put, List.setIfInBounds_toArray, List.set_cons_zero, List.set_cons_succ]
        refine wpAnyH_take (i := 11) (oi := { dst := some 50, op := _, type := _, pos := _, after := _, guard := _ }) (v := .agg #[.int .i64 nx, .int .i64 fl, .string tx]) rfl (by kernel_rfl) (by kernel_rfl) (by kernel_rfl) (fun _ _ _ h => h) (Or.inl ⟨by rfl, by (intro w hSw; (try dsimp only at hSw); first | (go_simp; done) | (go_simp; with_reducible rfl) | (go_simp; omega) | (go_simp; simp [*]; done))⟩) (by assumption) ?_; try simp only [Act.put, List.setIfInBounds_toArray, List.set_cons_zero, List.set_cons_succ]
        refine wpAnyH_ready (rs := [4, 12]) (by kernel_rfl) (by simp) ?_
        refine AllReadyH.cons (o := { dst := some 43, op := _, type := _, pos := _, after := _, guard := _ }) rfl (fun K hK => ?_) (AllReadyH.cons (o := { dst := some 51, op := _, type := _, pos := _, after := _, guard := _ }) rfl (fun K hK => ?_) AllReadyH.nil)
        · go_simp
          refine hK.out _ _ y1d (fun hHeld => ?_)
          clear hK K
          refine wpAnyH_ready (rs := [12]) (by kernel_rfl) (by simp) ?_
          refine AllReadyH.cons (o := { dst := some 51, op := _, type := _, pos := _, after := _, guard := _ }) rfl (fun K hK => ?_) AllReadyH.nil
          go_simp
          refine hK.out _ _ (cell_alloc' y1d _) (fun hHeld => ?_)
          clear hK K
          refine wpAnyH_ready (rs := [13]) (by kernel_rfl) (by simp) ?_
          refine AllReadyH.cons (o := { dst := some 52, op := _, type := _, pos := _, after := _, guard := _ }) rfl (fun K hK => ?_) AllReadyH.nil
          refine mail_step base (by rfl) (.tmp 43) (.tmp 51) (by rfl) (.slice Am l.length cm) l ⟨nx, fl, tx⟩ (fun k => oki k ∨ k ≠ pb ∧ w1.drew.heap.size ≤ k) (by rfl) (by rfl) (fun k hk => .inr ⟨(by simp at hk; omega), hk⟩) hR1 (by simp; omega) (by omega) ?_
          intro v1 w5 hR5 hb5 hg5
          obtain ⟨A5, c5, h5⟩ := Kd.R_slice hR5
          rw [List.length_append] at h5
          subst h5
          have z1 := (hg5.cell_far ⟨g, i * 3 + 1, none⟩ (by simp; omega) hgo).trans y1d
          have z2 := (hg5.cell_far ⟨g, i * 3 + 2, none⟩ (by simp; omega) hgo).trans y2d
          have z3 : w5.frozen? ⟨g, i * 3 + 1, none⟩ = false := (hg5.frozen_far ⟨g, i * 3 + 1, none⟩ (by simp; omega) hgo).trans (by simpa using e1)
          have z4 : w5.frozen? ⟨g, i * 3 + 2, none⟩ = false := (hg5.frozen_far ⟨g, i * 3 + 2, none⟩ (by simp; omega) hgo).trans (by simpa using e2)
          refine hK.out _ _ z1 (fun hHeld => ?_)
          clear hK K
          refine wpAnyH_take (i := 14) (oi := { dst := some 53, op := _, type := _, pos := _, after := _, guard := _ }) (v := .pointer (some ⟨g, i * 3, none⟩)) rfl (by kernel_rfl) (by kernel_rfl) (by kernel_rfl) (fun _ _ _ h => h) (Or.inl ⟨by rfl, by (intro w hSw; (try dsimp only at hSw); first | (go_simp; done) | (go_simp; with_reducible rfl) | (go_simp; omega) | (go_simp; simp [*]; done))⟩) (by assumption) ?_; try simp only [Act.put, List.setIfInBounds_toArray, List.set_cons_zero, List.set_cons_succ]
          refine wpAnyH_take (i := 15) (oi := { dst := some 54, op := _, type := _, pos := _, after := _, guard := _ }) (v := .pointer (some ⟨g, i * 3 + 2, none⟩)) rfl (by kernel_rfl) (by kernel_rfl) (by kernel_rfl) (fun _ _ _ h => h) (Or.inl ⟨by rfl, by (intro w hSw; (try dsimp only at hSw); first | (go_simp; done) | (go_simp; with_reducible rfl) | (go_simp; omega) | (go_simp; simp [*]; done))⟩) (by assumption) ?_; try simp only [Act.put, List.setIfInBounds_toArray, List.set_cons_zero, List.set_cons_succ]
          refine wpAnyH_ready (rs := [16]) (by kernel_rfl) (by simp) ?_
          refine AllReadyH.cons (o := { dst := none, op := _, type := _, pos := _, after := _, guard := _ }) rfl (fun K hK => ?_) AllReadyH.nil
          go_simp
          have z5 : (w5.setCell ⟨g, i * 3 + 2, none⟩ (.slice A5 (l.length + 1) c5)).cell? ⟨g, i * 3 + 1, none⟩ = some (.int .i64 nx) := by
            rw [World.cell?_setCell_other _ _ _ _ (by simp)]; exact z1
          refine hK.out _ _ z5 (fun hHeld => ?_)
          clear hK K
          refine wpAnyH_done (by kernel_rfl) ?_ _
          have hH5 := Kd.H_grown hH1 hg5 (fun k hk => hR1.1 k hk)
          have hk5 := ((((hk.below hb1 hpb).drew).grown hg5 hpo).other (c := g) (j := i * 3 + 2) hng (.slice A5 (l.length + 1) c5)).other (c := g) (j := i * 3 + 1) hng (.int .i64 (nx + 1))
          have hS5 := box_back (box_hole1 (nx' := nx + 1) (box_hole2 (v1 := .slice A5 (l.length + 1) c5) hH5 hi rfl) hi) (Kd.R_far (p := ⟨g, i * 3 + 1, none⟩) (Kd.R_far (p := ⟨g, i * 3 + 2, none⟩) hR5 hng3 (.slice A5 (l.length + 1) c5)) hng3 (.int .i64 (nx + 1)))
          have hg6 : w5.heap[g]? = some (.cells cells 77 (0, 0)) := (hg5.block g (by simp; omega) hgo).trans ((hb1.block g hgl).trans hgc)
          have hE5 := Kd.R_mono (Kd.R_far (p := ⟨g, i * 3 + 1, none⟩) (Kd.R_far (p := ⟨g, i * 3 + 2, none⟩) (Kd.R_types (entries_over (Kd.R_drew (Kd.R_below hE hb1)) hR1 hg5) hg6 (by decide)) (fun k hk => hk.2) (.slice A5 (l.length + 1) c5)) (fun k hk => hk.2) (.int .i64 (nx + 1))) (fun k hk => hk.1)
          have hB5 := Below.setCell (p := ⟨g, i * 3 + 1, none⟩) (Below.setCell (p := ⟨g, i * 3 + 2, none⟩) (Below.trans (below_drew (hb1.mono hbase)) hb5) hgb (.slice A5 (l.length + 1) c5)) hgb (.int .i64 (nx + 1))
          have hw : IntKind.i64.wrap (nx + 1) = nx + 1 := by rw [IntKind.wrap_i64]; omega
          clear hH5 hH1 hH hR5 hR1 hR hE hS hC z1 z2 y1 y2 y1d y2d y2a e1 e2 x0 x1 x2 f1 f2 hg6
          go_wp2_with fail
          go_ret
          exact ⟨(by first | rfl | (simp; done) | (simp [*]; done) | (rw [if_pos (by omega)]; first | rfl | (simp; done)) | (rw [if_neg (by omega)]; first | rfl | (simp; done)) | (simp; omega)), ⟨_, _, hk5, hp, hS5, hE5⟩, hB5⟩
        · go_simp
          refine hK.out _ _ (cell_alloc' y1d _) (fun hHeld => ?_)
          clear hK K
          refine wpAnyH_ready (rs := [4]) (by kernel_rfl) (by simp) ?_
          refine AllReadyH.cons (o := { dst := some 43, op := _, type := _, pos := _, after := _, guard := _ }) rfl (fun K hK => ?_) AllReadyH.nil
          go_simp
          refine hK.out _ _ (cell_alloc' y1d _) (fun hHeld => ?_)
          clear hK K
          refine wpAnyH_ready (rs := [13]) (by kernel_rfl) (by simp) ?_
          refine AllReadyH.cons (o := { dst := some 52, op := _, type := _, pos := _, after := _, guard := _ }) rfl (fun K hK => ?_) AllReadyH.nil
          refine mail_step base (by rfl) (.tmp 43) (.tmp 51) (by rfl) (.slice Am l.length cm) l ⟨nx, fl, tx⟩ (fun k => oki k ∨ k ≠ pb ∧ w1.drew.heap.size ≤ k) (by rfl) (by rfl) (fun k hk => .inr ⟨(by simp at hk; omega), hk⟩) hR1 (by simp; omega) (by omega) ?_
          intro v1 w5 hR5 hb5 hg5
          obtain ⟨A5, c5, h5⟩ := Kd.R_slice hR5
          rw [List.length_append] at h5
          subst h5
          have z1 := (hg5.cell_far ⟨g, i * 3 + 1, none⟩ (by simp; omega) hgo).trans y1d
          have z2 := (hg5.cell_far ⟨g, i * 3 + 2, none⟩ (by simp; omega) hgo).trans y2d
          have z3 : w5.frozen? ⟨g, i * 3 + 1, none⟩ = false := (hg5.frozen_far ⟨g, i * 3 + 1, none⟩ (by simp; omega) hgo).trans (by simpa using e1)
          have z4 : w5.frozen? ⟨g, i * 3 + 2, none⟩ = false := (hg5.frozen_far ⟨g, i * 3 + 2, none⟩ (by simp; omega) hgo).trans (by simpa using e2)
          refine hK.out _ _ z1 (fun hHeld => ?_)
          clear hK K
          refine wpAnyH_take (i := 14) (oi := { dst := some 53, op := _, type := _, pos := _, after := _, guard := _ }) (v := .pointer (some ⟨g, i * 3, none⟩)) rfl (by kernel_rfl) (by kernel_rfl) (by kernel_rfl) (fun _ _ _ h => h) (Or.inl ⟨by rfl, by (intro w hSw; (try dsimp only at hSw); first | (go_simp; done) | (go_simp; with_reducible rfl) | (go_simp; omega) | (go_simp; simp [*]; done))⟩) (by assumption) ?_; try simp only [Act.put, List.setIfInBounds_toArray, List.set_cons_zero, List.set_cons_succ]
          refine wpAnyH_take (i := 15) (oi := { dst := some 54, op := _, type := _, pos := _, after := _, guard := _ }) (v := .pointer (some ⟨g, i * 3 + 2, none⟩)) rfl (by kernel_rfl) (by kernel_rfl) (by kernel_rfl) (fun _ _ _ h => h) (Or.inl ⟨by rfl, by (intro w hSw; (try dsimp only at hSw); first | (go_simp; done) | (go_simp; with_reducible rfl) | (go_simp; omega) | (go_simp; simp [*]; done))⟩) (by assumption) ?_; try simp only [Act.put, List.setIfInBounds_toArray, List.set_cons_zero, List.set_cons_succ]
          refine wpAnyH_ready (rs := [16]) (by kernel_rfl) (by simp) ?_
          refine AllReadyH.cons (o := { dst := none, op := _, type := _, pos := _, after := _, guard := _ }) rfl (fun K hK => ?_) AllReadyH.nil
          go_simp
          have z5 : (w5.setCell ⟨g, i * 3 + 2, none⟩ (.slice A5 (l.length + 1) c5)).cell? ⟨g, i * 3 + 1, none⟩ = some (.int .i64 nx) := by
            rw [World.cell?_setCell_other _ _ _ _ (by simp)]; exact z1
          refine hK.out _ _ z5 (fun hHeld => ?_)
          clear hK K
          refine wpAnyH_done (by kernel_rfl) ?_ _
          have hH5 := Kd.H_grown hH1 hg5 (fun k hk => hR1.1 k hk)
          have hk5 := ((((hk.below hb1 hpb).drew).grown hg5 hpo).other (c := g) (j := i * 3 + 2) hng (.slice A5 (l.length + 1) c5)).other (c := g) (j := i * 3 + 1) hng (.int .i64 (nx + 1))
          have hS5 := box_back (box_hole1 (nx' := nx + 1) (box_hole2 (v1 := .slice A5 (l.length + 1) c5) hH5 hi rfl) hi) (Kd.R_far (p := ⟨g, i * 3 + 1, none⟩) (Kd.R_far (p := ⟨g, i * 3 + 2, none⟩) hR5 hng3 (.slice A5 (l.length + 1) c5)) hng3 (.int .i64 (nx + 1)))
          have hg6 : w5.heap[g]? = some (.cells cells 77 (0, 0)) := (hg5.block g (by simp; omega) hgo).trans ((hb1.block g hgl).trans hgc)
          have hE5 := Kd.R_mono (Kd.R_far (p := ⟨g, i * 3 + 1, none⟩) (Kd.R_far (p := ⟨g, i * 3 + 2, none⟩) (Kd.R_types (entries_over (Kd.R_drew (Kd.R_below hE hb1)) hR1 hg5) hg6 (by decide)) (fun k hk => hk.2) (.slice A5 (l.length + 1) c5)) (fun k hk => hk.2) (.int .i64 (nx + 1))) (fun k hk => hk.1)
          have hB5 := Below.setCell (p := ⟨g, i * 3 + 1, none⟩) (Below.setCell (p := ⟨g, i * 3 + 2, none⟩) (Below.trans (below_drew (hb1.mono hbase)) hb5) hgb (.slice A5 (l.length + 1) c5)) hgb (.int .i64 (nx + 1))
          have hw : IntKind.i64.wrap (nx + 1) = nx + 1 := by rw [IntKind.wrap_i64]; omega
          clear hH5 hH1 hH hR5 hR1 hR hE hS hC z1 z2 y1 y2 y1d y2d y2a e1 e2 x0 x1 x2 f1 f2 hg6
          go_wp2_with fail
          go_ret
          exact ⟨(by first | rfl | (simp; done) | (simp [*]; done) | (rw [if_pos (by omega)]; first | rfl | (simp; done)) | (rw [if_neg (by omega)]; first | rfl | (simp; done)) | (simp; omega)), ⟨_, _, hk5, hp, hS5, hE5⟩, hB5⟩
end Go.Proofs.YtijdghplfhfpaaaDoor.H
