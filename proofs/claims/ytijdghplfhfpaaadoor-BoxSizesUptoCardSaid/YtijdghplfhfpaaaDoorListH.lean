/- Lists of addresses: the reference's listOf, ListOf; both sides' answers: the walks. -/
import Derived.Test.YtijdghplfhfpaaaDoorListG
import Derived.Test.YtijdghplfhfpaaaDoorListD
import Derived.Test.YtijdghplfhfpaaaDoorAddrA
namespace Go.Proofs.YtijdghplfhfpaaaDoor.H
open Go.RowKit Go.Proofs.YtijdghplfhfpaaaDoorW.PrintWords Go.Proofs.YtijdghplfhfpaaaDoorW.PrintLast Go.Proofs.YtijdghplfhfpaaaDoorW.PrintMore Go.Proofs.YtijdghplfhfpaaaDoor.U
set_option linter.unusedVariables false
set_option linter.unusedSimpArgs false
theorem bits_size (s : ByteArray) : ∀ n i ap l, s.size - i ≤ n → i ≤ s.size → bitsP s i ap = some l → l.length ≤ s.size - i ∧ ∀ b ∈ l, b.text.size ≤ s.size := by
  intro n
  induction n with
  | zero =>
    intro i ap l h1 h2 h
    rw [bits_end s i ap (by omega)] at h
    cases h; simp
  | succ n ih =>
    intro i ap l h1 h2 h
    by_cases hlt : i < s.size
    · cases hb : blankB s[i].toNat with
      | true =>
        rw [bits_blank s i ap hlt hb] at h
        have := ih (i + 1) true l (by omega) hlt h
        exact ⟨by omega, this.2⟩
      | false =>
        cases hr : runB s[i].toNat with
        | true =>
          have hlt2 : i < spanEnd runB s i := by rw [spanEnd_yes runB hlt hr]; have := span_ge runB s (i + 1) (by omega); omega
          have hle := span_le runB s i h2
          rw [bits_run s i ap hlt2 h2] at h
          obtain ⟨l1, hl1, rfl⟩ := Option.map_eq_some_iff.1 h
          have := ih _ false l1 (by omega) hle hl1
          refine ⟨by simp; omega, fun b hb => ?_⟩
          rcases List.mem_cons.1 hb with rfl | hb
          · simp only; rw [ext_size hle]; omega
          · exact this.2 b hb
        | false =>
          by_cases hq : s[i].toNat = 34
          · rw [bits_quoted s i ap hlt hq] at h
            cases hk : qEnd s (i + 1) with
            | none => rw [hk] at h; cases h
            | some k =>
              rw [hk] at h
              simp only [Option.bind_some] at h
              obtain ⟨l1, hl1, rfl⟩ := Option.map_eq_some_iff.1 h
              have hgt := qEnd_gt s _ _ _ (Nat.le_refl _) hk
              have := ih k false l1 (by omega) hgt.2 hl1
              refine ⟨by simp; omega, fun b hb => ?_⟩
              rcases List.mem_cons.1 hb with rfl | hb
              · exact Nat.zero_le _
              · exact this.2 b hb
          · rw [bits_one s i ap hlt hb hr hq] at h
            obtain ⟨l1, hl1, rfl⟩ := Option.map_eq_some_iff.1 h
            have := ih (i + 1) false l1 (by omega) hlt hl1
            refine ⟨by simp; omega, fun b hb => ?_⟩
            rcases List.mem_cons.1 hb with rfl | hb
            · show 1 ≤ s.size; omega
            · exact this.2 b hb
    · rw [bits_end s i ap hlt] at h
      cases h; simp
theorem below_alloc' {B : Nat} {w w1 : World} (h : Below B w w1) (hB : B ≤ w1.heap.size) (o : Obj) : Below B w (w1.alloc o) := Below.alloc h hB o
/-- The reference's list, and whether it is in form. -/
def PostLo (w : World) (R : Option (List AAddress)) (e : Ending) (w' : World) : Prop :=
  match R with
  | some l => ∃ v : Value, e = .returned (.tuple #[v, .bool true]) ∧ Kd.R kAAddress 49 w' w.heap.size (fun _ => True) v l ∧ Below w.heap.size w w'
  | none => e = .returned (.tuple #[.slice none 0 0, .bool false]) ∧ Below w.heap.size w w'
set_option maxHeartbeats 4000000 in
set_option maxRecDepth 100000 in
theorem listOf_calls (s : ByteArray) (w : World) (hs : s.size ≤ 1048576) :
    Calls Tryd.prog 88 #[.string s] w (PostLo w (listP okAddr s 0)) := by
  rw [list_law okAddr_empty]
  have HB := fun w => bitsOf_calls s w hs
  have hbs := fun l => bits_size s _ 0 false l (Nat.le_refl _) (Nat.zero_le _)
  generalize bitsP s 0 false = B at *
  have HB := Lib.hid HB
  cases B with
  | none =>
    clear hbs
    simp only [Option.bind_none]
    go_enter Tryd.func88, Tryd.ntmps88
    go_wp2_with fail
    refine (HB.out _).mono ?_
    intro e w1 hw1
    obtain ⟨v, rfl, hb1⟩ : ∃ v, _ ∧ _ := hw1
    go_wp2_with fail
    go_ret2
    exact ⟨rfl, hb1⟩
  | some l =>
    obtain ⟨hl, htx⟩ := hbs l rfl
    have htx : ∀ b ∈ l, b.text.size ≤ 1048576 := fun b hb => by have := htx b hb; omega
    clear hbs
    simp only [Option.bind_some]
    generalize hR : listR okAddr l = R
    go_enter Tryd.func88, Tryd.ntmps88
    go_wp2_with fail
    refine (HB.out _).mono ?_
    intro e w1 hw1
    obtain ⟨v, rfl, hRow, hb1⟩ : ∃ v, _ ∧ _ ∧ _ := hw1
    obtain ⟨A, c, rfl, hlc, hrl⟩ := C_of hRow
    clear hRow HB
    have zb := hb1.size
    go_wp2_with fail
    go_loopw [6, 7] (fun v vi wr => ∃ (k : Nat) (acc : List AAddress), k ≤ l.length ∧ vi = .int .i64 k ∧ Kd.R kAAddress 49 wr w1.heap.size (fun _ => True) v acc ∧ (listR okAddr (l.drop k)).map (acc ++ ·) = R ∧ acc.length ≤ k ∧ Below w1.heap.size w1 wr) (fun _ vi _ => l.length - (intOf vi).toNat)
    case atStart => exact ⟨0, [], Nat.zero_le _, rfl, Kd.R_nil _ _ _ _ _, by rw [List.drop_zero, hR]; cases R <;> rfl, Nat.le_refl _, Below.refl _ _⟩
    case round =>
      clear hR
      obtain ⟨k, acc, hk, rfl, hRow, hR, hacc, hB⟩ := hrel
      obtain ⟨A0, cap0, rfl⟩ := Kd.R_slice hRow
      have HA := Lib.hid (fun W hr => addressAt_calls A c l k W hr hk (by omega) htx)
      rw [listR] at hR
      have hlen := fun a r => addrR_len (ok := okAddr) (l := l.drop k) (r := r) (a := a)
      have hrw := Kd.C_below hrl hB
      have hbw : Below w.heap.size w wr := hb1.trans (hB.mono zb)
      have zw := hB.size
      generalize addrR okAddr (l.drop k) = AA at *
      cases AA with
      | none =>
        simp only [Option.map_none] at hR
        subst hR
        go_wp2_with fail
        refine (HA.out _ hrw).mono ?_
        intro e w2 hw2
        obtain ⟨rfl, hb2⟩ : _ ∧ _ := hw2
        go_wp2_with fail
        go_ret2
        exact ⟨rfl, (by repeat (first | exact Below.refl _ _ | apply below_alloc | apply pw_below_drewN | apply below_drew1 | (refine Below.setCell ?_ (by first | (simp; done) | (simp; omega) | omega) _) | (refine below_then ?_ (by first | (simp; done) | (simp; omega) | omega) hb2) | exact hbw))⟩
      | some x =>
        obtain ⟨a, r⟩ := x
        have hlen := hlen a r rfl
        go_wp2_with fail
        refine (HA.out _ hrw).mono ?_
        intro e w2 hw2
        obtain ⟨d, rfl, hd, rfl, hb2⟩ : ∃ d, _ ∧ _ ∧ _ ∧ _ := hw2
        have hRow2 := Kd.R_alloc (Kd.R_below hRow hb2) (.cells #[.string a.loc, .string a.dom] 49)
        have z2 := hb2.size
        have hbw2 : Below w.heap.size w w2 := hbw.trans (hb2.mono (by omega))
        have hbr2 : Below w1.heap.size w1 w2 := hB.trans (hb2.mono zw)
        rw [List.length_drop, List.length_drop] at hlen
        have e0 : decide ((d : Int) < 0) = false := by rw [decide_eq_false_iff_not]; omega
        by_cases hdl : d = l.length
        · subst hdl
          rw [List.drop_eq_nil_of_le (Nat.le_refl _)] at hR
          simp only [Option.map_some] at hR
          subst hR
          go_wp2_with (at_builtin; refine snoc_list rowAAddress w1.heap.size rfl _ _ rfl (.slice A0 acc.length cap0) acc a [.string a.loc, .string a.dom] rfl (by simp [Act.eval]) rfl hRow2 (by first | (simp; done) | (simp; omega) | omega) (by omega) ?_; intro v1 w3 hR1 hb3 hg3)
          go_ret2
          exact ⟨_, rfl, Kd.R_lower hR1 zb, (below_alloc' hbw2 (by omega) _).trans (hb3.mono zb)⟩
        · have hdlt : d < l.length := by omega
          obtain ⟨ad, e1, x0, xj⟩ := flat_at hrl d hdlt
          subst e1
          have p0 := x0 _ rfl
          have pb := lt_of_cell' p0
          clear x0 xj
          have p2 := (hbr2.cell pb).trans p0
          rw [List.drop_eq_getElem_cons hdlt] at hR
          simp only at hR
          have e1 : ((d : Int) == l.length) = false := by rw [beq_eq_false_iff_ne]; omega
          have i0 : (0 : Int) ≤ (d : Int) := by omega
          have i1 : (d : Int) < (l.length : Int) := by omega
          generalize l[d] = b0 at *
          obtain ⟨t0, u0, v0, a0⟩ := b0
          simp only at p0 p2 hR
          by_cases h44 : t0 = ⟨#[44]⟩
          · rw [if_pos ⟨h44, by rw [List.length_drop, List.length_drop]; omega⟩] at hR
            have q44 := lit_yes (l := [44]) h44
            have hR := Lib.hid hR
            clear h44
            go_wp2_with (at_builtin; refine snoc_list rowAAddress w1.heap.size rfl _ _ rfl (.slice A0 acc.length cap0) acc a [.string a.loc, .string a.dom] rfl (by simp [Act.eval]) rfl hRow2 (by first | (simp; done) | (simp; omega) | omega) (by omega) ?_; intro v1 w3 hR1 hb3 hg3; have p3 := (hb3.cell pb).trans (cell_alloc' p2 (.cells #[.string a.loc, .string a.dom] 49)))
            go_roundw
            case rel =>
              refine ⟨d + 1, acc ++ [a], hdlt, by go_num, hR1, ?_, by simp; omega, (below_alloc' hbr2 (by omega) _).trans hb3⟩
              rw [← hR.out]
              cases listR okAddr (l.drop (d + 1)) <;> simp
            case measure => simp [intOf]; omega
          · rw [if_neg (fun h => h44 h.1)] at hR
            simp only [Option.map_none] at hR
            subst hR
            have q44 := lit_no (l := [44]) h44
            clear h44
            go_wp2_with (at_builtin; refine snoc_list rowAAddress w1.heap.size rfl _ _ rfl (.slice A0 acc.length cap0) acc a [.string a.loc, .string a.dom] rfl (by simp [Act.eval]) rfl hRow2 (by first | (simp; done) | (simp; omega) | omega) (by omega) ?_; intro v1 w3 hR1 hb3 hg3; have p3 := (hb3.cell pb).trans (cell_alloc' p2 (.cells #[.string a.loc, .string a.dom] 49)))
            go_ret2
            exact ⟨rfl, (below_alloc' hbw2 (by omega) _).trans (hb3.mono zb)⟩
end Go.Proofs.YtijdghplfhfpaaaDoor.H
