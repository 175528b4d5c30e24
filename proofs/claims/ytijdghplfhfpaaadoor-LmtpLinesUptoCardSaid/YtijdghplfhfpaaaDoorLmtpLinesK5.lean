/- The claim LmtpLinesUptoCardSaid, part 5 of 5. -/
import Derived.Test.YtijdghplfhfpaaaDoorLmtpLinesK4
import Derived.Test.YtijdghplfhfpaaaDoorCards
import Derived.Test.YtijdghplfhfpaaaDoorTie
import Derived.Test.YtijdghplfhfpaaaDoorLmtpLinesK1
import Derived.WalkKit
import Derived.ProofKit
import Derived.OpenShut
import Derived.ShutString
import Derived.ChangeOld
import Derived.Below
import Derived.Carry
import Derived.SevenTiedAt
import Derived.Shelf.Vars
/- Lines: a line of a body, and a letter's end, as the reference does them. -/
namespace Go.Proofs.YtijdghplfhfpaaaDoor.H
open Go.RowKit Go.Proofs.YtijdghplfhfpaaaDoorW.PrintWords Go.Proofs.YtijdghplfhfpaaaDoorW.PrintLast Go.Proofs.YtijdghplfhfpaaaDoor.U
set_option linter.unusedVariables false
set_option linter.unusedSimpArgs false
set_option maxHeartbeats 1000000 in
set_option maxRecDepth 100000 in
theorem lined_bodyE (A : Option Addr) (c : Nat) (A0 : Option Addr) (c0 : Nat) (kn : List ByteArray) (line : ByteArray) (w : World) (st : Int) (fr : AAddress) (to_ : List AAddress) (tx : ByteArray) (lg : Bool) (hr : Kd.C kAAddress w A to_.length to_) (hc : to_.length ≤ c) (ha : fr.loc.size ≤ 1048576) (hb : fr.dom.size ≤ 1048576) (hs : ∀ x ∈ to_, x.loc.size ≤ 1048576 ∧ x.dom.size ≤ 1048576) (hl : line.size ≤ 1048576) (hok : sessMay st fr to_ tx lg) (h4 : st = 4) (hd : ¬ line = ⟨#[46]⟩) (h0 : ¬ 0 < line.size) : Calls Tryd.prog 31 #[.agg #[.int .i64 st, .string fr.loc, .string fr.dom, .slice A to_.length c, .string tx, .bool lg], .slice A0 kn.length c0, .string line] w (PostLine w (bodyV ⟨st, fr, to_, tx, lg⟩ line, 0, [], 0)) := by
  have HC := Lib.hid (fun w hr => refSession_calls st fr A c to_ tx lg w hr hc ha hb hs)
  rw [sess_yes hok] at HC
  have hlen := hok.2.2.1
  have htx := hok.2.2.2.1
  have hus := undot_size line
  unfold bodyV
  simp only
  clear hok hs
  have i5 : (st == 5) = false := beq_eq_false_iff_ne.mpr (by omega)
  have i4 : (st != 4) = false := by rw [h4]; rfl
  have id := lit_no (l := [46]) hd
  clear h4 hd
  replace hr := Lib.hid hr
  replace hc := Lib.hid hc
  have j0 : ¬ (0 : Int) < (line.size : Int) := by omega
  have hu : undot line = line := by rw [undot_eq, if_neg (by omega)]
  rw [hu] at hus ⊢
  clear hu
  skip
  have hsz := Lib.hid hus
  by_cases hbig : 2000 < tx.size + (line).size + 2
  · rw [if_pos hbig]
    have j1 : (1998 : Int) < (tx.size : Int) + (line).size := by omega
    skip
    clear hbig
    skip
    skip
    have hK' : Blk ((w.alloc (.cells #[.int .i64 st, .string fr.loc, .string fr.dom, .slice A to_.length c, .string tx, .bool lg] 52)).alloc (.cells #[.int .i64 0, .string ⟨#[]⟩, .string ⟨#[]⟩, .slice none 0 0, .string ⟨#[]⟩, .bool false] 52)) w.heap.size [.int .i64 st, .string fr.loc, .string fr.dom, .slice A to_.length c, .string tx, .bool lg] := (Blk.made w _ _).alloc _
    have hZ' : Blk ((w.alloc (.cells #[.int .i64 st, .string fr.loc, .string fr.dom, .slice A to_.length c, .string tx, .bool lg] 52)).alloc (.cells #[.int .i64 0, .string ⟨#[]⟩, .string ⟨#[]⟩, .slice none 0 0, .string ⟨#[]⟩, .bool false] 52)) (w.heap.size + 1) [.int .i64 0, .string ⟨#[]⟩, .string ⟨#[]⟩, .slice none 0 0, .string ⟨#[]⟩, .bool false] := Blk.made_at _ _ _ (by simp)
    have hb0 : Below w.heap.size w ((w.alloc (.cells #[.int .i64 st, .string fr.loc, .string fr.dom, .slice A to_.length c, .string tx, .bool lg] 52)).alloc (.cells #[.int .i64 0, .string ⟨#[]⟩, .string ⟨#[]⟩, .slice none 0 0, .string ⟨#[]⟩, .bool false] 52)) := (by repeat (first | exact Below.refl _ _ | apply below_alloc | apply pw_below_drewN | apply below_drew1 | (refine Below.setCell ?_ (by first | (simp; done) | (simp; omega) | omega) _) ))
    have k0 := hK'.at 0 _ rfl
    have k1 := hK'.at 1 _ rfl
    have k2 := hK'.at 2 _ rfl
    have k3 := hK'.at 3 _ rfl
    have k4 := hK'.at 4 _ rfl
    have k5 := hK'.at 5 _ rfl
    go_enter Tryd.func31, Tryd.ntmps31
    go_wp2_with fail
    refine (HC.out _ (Kd.C_below hr.out hb0)).mono ?_
    rintro e w1 ⟨rfl, hb1⟩
    have hB1 : Below w.heap.size w w1 := hb0.trans (hb1.mono hb0.size)
    have hK1 := hK'.below hb1 hK'.lt
    have hZ1 := hZ'.below hb1 hZ'.lt
    clear hK' hZ' k0 k1 k2 k3 k4 k5 hb1 hb0
    have kl1 := hK1.lt
    have zl1 := hZ1.lt
    go_wp2_with fail
    go_loopw [11, 12] (fun v i wr => ∃ k : Nat, k ≤ to_.length ∧ i = .int .i64 k ∧ Kd.R kAAddress 49 wr w1.heap.size (fun _ => True) v (to_.take k) ∧ Below w1.heap.size w1 wr) (fun _ i _ => to_.length - (intOf i).toNat)
    case atStart => exact ⟨0, Nat.zero_le _, rfl, Kd.R_nil _ _ _ _ _, Below.refl _ _⟩
    case round =>
      obtain ⟨k, hk, rfl, hR, hB⟩ := hrel
      have hBw : Below w.heap.size w wr := hB1.trans (hB.mono hB1.size)
      have hK4 := hK1.below hB kl1
      have hZ4 := hZ1.below hB zl1
      have hzz := hB.size
      have k3 := hK4.at 3 _ rfl
      have kl := hK4.lt
      obtain ⟨A5, c5, rfl⟩ := Kd.R_slice hR
      have hlk : (to_.take k).length = k := by rw [List.length_take]; omega
      rw [hlk] at hR ⊢
      replace hlk := Lib.hid hlk
      by_cases hlt : k < to_.length
      · obtain ⟨ad, e1, hx0, hxj⟩ := flat_at (Kd.C_below hr.out hBw) k hlt
        subst e1
        have q0 := hx0 _ rfl; have q1 := hxj 1 _ (by decide) rfl
        clear hx0 hxj
        have hts := Lib.hid (List.take_succ_eq_append_getElem hlt)
        generalize to_[k] = y at *
        have i0 : (0 : Int) ≤ (k : Int) := by omega
        have i1 : (k : Int) < (to_.length : Int) := by omega
        go_wp2_with (at_builtin; refine snoc_list rowAAddress w1.heap.size rfl _ _ rfl (.slice A5 k c5) (to_.take k) y [.string y.loc, .string y.dom] (by first | rfl | (simp [Act.eval]; done)) (by first | rfl | (simp [Act.eval]; done)) rfl hR (by omega) (by rw [hlk.out]; omega) ?_)
        intro v8 w8 hR8 hb8 hg8
        have hB8 : Below w1.heap.size w1 w8 := hB.trans hb8
        go_wp2_with fail
        go_roundw
        case rel => exact ⟨k + 1, hlt, by go_num, by rw [hts.out]; exact hR8, hB8⟩
        case measure => simp [intOf]; omega
      · obtain rfl : k = to_.length := by omega
        have i1 : ¬ (to_.length : Int) < (to_.length : Int) := by omega
        rw [List.take_length] at hR
        have g3 := hK4.free 3 _ rfl
        have hc5 := Lib.hid (Kd.R_reads' hR).2.1
        have hK5 := hK4.set 3 (.slice A5 to_.length c5) (by simp)
        have hZ5 := hZ4.other (c := w.heap.size) (j := 3) (by omega) (.slice A5 to_.length c5)
        have hR5 := R_elder hR (p := ⟨w.heap.size, 3, none⟩) (by show w.heap.size < _; omega) (.slice A5 to_.length c5)
        have hB5 : Below w.heap.size w (wr.setCell ⟨w.heap.size, 3, none⟩ (.slice A5 to_.length c5)) := Below.setCell hBw (Nat.le_refl _) _
        have k0 := hK4.at 0 _ rfl
        have k1 := hK4.at 1 _ rfl
        have k2 := hK4.at 2 _ rfl
        have k4 := hK4.at 4 _ rfl
        have k5 := hK4.at 5 _ rfl
        have nz1 : w1.heap.size ≤ (wr.setCell ⟨w.heap.size, 3, none⟩ (.slice A5 to_.length c5)).heap.size := by simp; omega
        cases lg with
        | true =>
          skip
          skip
          have z0 := (hZ4).at 0 _ rfl
          have z1 := (hZ4).at 1 _ rfl
          have z2 := (hZ4).at 2 _ rfl
          have z3 := (hZ4).at 3 _ rfl
          have z4 := (hZ4).at 4 _ rfl
          have z5 := (hZ4).at 5 _ rfl
          have f0 := (hZ4).free 0 _ rfl
          have f1 := (hZ4).free 1 _ rfl
          have f2 := (hZ4).free 2 _ rfl
          have f3 := (hZ4).free 3 _ rfl
          have f4 := (hZ4).free 4 _ rfl
          have f5 := (hZ4).free 5 _ rfl
          have fl := (hZ4).lt
          have g5 := hK4.free 5 _ rfl
          have hB6 : Below w.heap.size w ((wr.setCell ⟨w.heap.size, 3, none⟩ (.slice A5 to_.length c5)).setCell ⟨w.heap.size, 5, none⟩ (.bool true)) := Below.setCell hB5 (Nat.le_refl _) _
          have hR6 := R_elder hR5 (p := ⟨w.heap.size, 5, none⟩) (by show w.heap.size < _; omega) (.bool true)
          go_wp2_with fail
          refine bodyPost_ret (v := .tuple #[.agg #[.int .i64 st, .string fr.loc, .string fr.dom, .slice A5 to_.length c5, .string tx, .bool true], .int .i64 0, .slice none 0 0, .int .i64 0]) (by simp [results, Tryd.results31, go_sem, *]) rfl (postLine_ses rfl hc5.out (toX_of (elder_six hR6 (by omega)) (by omega)) (below_six hB6 (Nat.le_succ _)))
        | false =>
          skip
          skip
          have z0 := (hZ4).at 0 _ rfl
          have z1 := (hZ4).at 1 _ rfl
          have z2 := (hZ4).at 2 _ rfl
          have z3 := (hZ4).at 3 _ rfl
          have z4 := (hZ4).at 4 _ rfl
          have z5 := (hZ4).at 5 _ rfl
          have f0 := (hZ4).free 0 _ rfl
          have f1 := (hZ4).free 1 _ rfl
          have f2 := (hZ4).free 2 _ rfl
          have f3 := (hZ4).free 3 _ rfl
          have f4 := (hZ4).free 4 _ rfl
          have f5 := (hZ4).free 5 _ rfl
          have fl := (hZ4).lt
          have g5 := hK4.free 5 _ rfl
          have hB6 : Below w.heap.size w ((wr.setCell ⟨w.heap.size, 3, none⟩ (.slice A5 to_.length c5)).setCell ⟨w.heap.size, 5, none⟩ (.bool true)) := Below.setCell hB5 (Nat.le_refl _) _
          have hR6 := R_elder hR5 (p := ⟨w.heap.size, 5, none⟩) (by show w.heap.size < _; omega) (.bool true)
          go_wp2_with fail
          refine bodyPost_ret (v := .tuple #[.agg #[.int .i64 st, .string fr.loc, .string fr.dom, .slice A5 to_.length c5, .string tx, .bool true], .int .i64 0, .slice none 0 0, .int .i64 0]) (by simp [results, Tryd.results31, go_sem, *]) rfl (postLine_ses rfl hc5.out (toX_of (elder_six hR6 (by omega)) (by omega)) (below_six hB6 (Nat.le_succ _)))
  · rw [if_neg hbig]
    have j1 : ¬ (1998 : Int) < (tx.size : Int) + (line).size := by omega
    skip
    clear hbig
    by_cases hlg : lg = true
    · rw [if_pos hlg]
      replace hlg := Lib.hid hlg
      skip
      skip
      have hK' : Blk ((w.alloc (.cells #[.int .i64 st, .string fr.loc, .string fr.dom, .slice A to_.length c, .string tx, .bool lg] 52)).alloc (.cells #[.int .i64 0, .string ⟨#[]⟩, .string ⟨#[]⟩, .slice none 0 0, .string ⟨#[]⟩, .bool false] 52)) w.heap.size [.int .i64 st, .string fr.loc, .string fr.dom, .slice A to_.length c, .string tx, .bool lg] := (Blk.made w _ _).alloc _
      have hZ' : Blk ((w.alloc (.cells #[.int .i64 st, .string fr.loc, .string fr.dom, .slice A to_.length c, .string tx, .bool lg] 52)).alloc (.cells #[.int .i64 0, .string ⟨#[]⟩, .string ⟨#[]⟩, .slice none 0 0, .string ⟨#[]⟩, .bool false] 52)) (w.heap.size + 1) [.int .i64 0, .string ⟨#[]⟩, .string ⟨#[]⟩, .slice none 0 0, .string ⟨#[]⟩, .bool false] := Blk.made_at _ _ _ (by simp)
      have hb0 : Below w.heap.size w ((w.alloc (.cells #[.int .i64 st, .string fr.loc, .string fr.dom, .slice A to_.length c, .string tx, .bool lg] 52)).alloc (.cells #[.int .i64 0, .string ⟨#[]⟩, .string ⟨#[]⟩, .slice none 0 0, .string ⟨#[]⟩, .bool false] 52)) := (by repeat (first | exact Below.refl _ _ | apply below_alloc | apply pw_below_drewN | apply below_drew1 | (refine Below.setCell ?_ (by first | (simp; done) | (simp; omega) | omega) _) ))
      have k0 := hK'.at 0 _ rfl
      have k1 := hK'.at 1 _ rfl
      have k2 := hK'.at 2 _ rfl
      have k3 := hK'.at 3 _ rfl
      have k4 := hK'.at 4 _ rfl
      have k5 := hK'.at 5 _ rfl
      go_enter Tryd.func31, Tryd.ntmps31
      go_wp2_with fail
      refine (HC.out _ (Kd.C_below hr.out hb0)).mono ?_
      rintro e w1 ⟨rfl, hb1⟩
      have hB1 : Below w.heap.size w w1 := hb0.trans (hb1.mono hb0.size)
      have hK1 := hK'.below hb1 hK'.lt
      have hZ1 := hZ'.below hb1 hZ'.lt
      clear hK' hZ' k0 k1 k2 k3 k4 k5 hb1 hb0
      have kl1 := hK1.lt
      have zl1 := hZ1.lt
      go_wp2_with fail
      go_loopw [11, 12] (fun v i wr => ∃ k : Nat, k ≤ to_.length ∧ i = .int .i64 k ∧ Kd.R kAAddress 49 wr w1.heap.size (fun _ => True) v (to_.take k) ∧ Below w1.heap.size w1 wr) (fun _ i _ => to_.length - (intOf i).toNat)
      case atStart => exact ⟨0, Nat.zero_le _, rfl, Kd.R_nil _ _ _ _ _, Below.refl _ _⟩
      case round =>
        obtain ⟨k, hk, rfl, hR, hB⟩ := hrel
        have hBw : Below w.heap.size w wr := hB1.trans (hB.mono hB1.size)
        have hK4 := hK1.below hB kl1
        have hZ4 := hZ1.below hB zl1
        have hzz := hB.size
        have k3 := hK4.at 3 _ rfl
        have kl := hK4.lt
        obtain ⟨A5, c5, rfl⟩ := Kd.R_slice hR
        have hlk : (to_.take k).length = k := by rw [List.length_take]; omega
        rw [hlk] at hR ⊢
        replace hlk := Lib.hid hlk
        by_cases hlt : k < to_.length
        · obtain ⟨ad, e1, hx0, hxj⟩ := flat_at (Kd.C_below hr.out hBw) k hlt
          subst e1
          have q0 := hx0 _ rfl; have q1 := hxj 1 _ (by decide) rfl
          clear hx0 hxj
          have hts := Lib.hid (List.take_succ_eq_append_getElem hlt)
          generalize to_[k] = y at *
          have i0 : (0 : Int) ≤ (k : Int) := by omega
          have i1 : (k : Int) < (to_.length : Int) := by omega
          go_wp2_with (at_builtin; refine snoc_list rowAAddress w1.heap.size rfl _ _ rfl (.slice A5 k c5) (to_.take k) y [.string y.loc, .string y.dom] (by first | rfl | (simp [Act.eval]; done)) (by first | rfl | (simp [Act.eval]; done)) rfl hR (by omega) (by rw [hlk.out]; omega) ?_)
          intro v8 w8 hR8 hb8 hg8
          have hB8 : Below w1.heap.size w1 w8 := hB.trans hb8
          go_wp2_with fail
          go_roundw
          case rel => exact ⟨k + 1, hlt, by go_num, by rw [hts.out]; exact hR8, hB8⟩
          case measure => simp [intOf]; omega
        · obtain rfl : k = to_.length := by omega
          have i1 : ¬ (to_.length : Int) < (to_.length : Int) := by omega
          rw [List.take_length] at hR
          have g3 := hK4.free 3 _ rfl
          have hc5 := Lib.hid (Kd.R_reads' hR).2.1
          have hK5 := hK4.set 3 (.slice A5 to_.length c5) (by simp)
          have hZ5 := hZ4.other (c := w.heap.size) (j := 3) (by omega) (.slice A5 to_.length c5)
          have hR5 := R_elder hR (p := ⟨w.heap.size, 3, none⟩) (by show w.heap.size < _; omega) (.slice A5 to_.length c5)
          have hB5 : Below w.heap.size w (wr.setCell ⟨w.heap.size, 3, none⟩ (.slice A5 to_.length c5)) := Below.setCell hBw (Nat.le_refl _) _
          have k0 := hK4.at 0 _ rfl
          have k1 := hK4.at 1 _ rfl
          have k2 := hK4.at 2 _ rfl
          have k4 := hK4.at 4 _ rfl
          have k5 := hK4.at 5 _ rfl
          have nz1 : w1.heap.size ≤ (wr.setCell ⟨w.heap.size, 3, none⟩ (.slice A5 to_.length c5)).heap.size := by simp; omega
          obtain rfl := hlg.out
          skip
          skip
          have z0 := (hZ4).at 0 _ rfl
          have z1 := (hZ4).at 1 _ rfl
          have z2 := (hZ4).at 2 _ rfl
          have z3 := (hZ4).at 3 _ rfl
          have z4 := (hZ4).at 4 _ rfl
          have z5 := (hZ4).at 5 _ rfl
          have f0 := (hZ4).free 0 _ rfl
          have f1 := (hZ4).free 1 _ rfl
          have f2 := (hZ4).free 2 _ rfl
          have f3 := (hZ4).free 3 _ rfl
          have f4 := (hZ4).free 4 _ rfl
          have f5 := (hZ4).free 5 _ rfl
          have fl := (hZ4).lt
          have g5 := hK4.free 5 _ rfl
          have hB6 : Below w.heap.size w ((wr.setCell ⟨w.heap.size, 3, none⟩ (.slice A5 to_.length c5)).setCell ⟨w.heap.size, 5, none⟩ (.bool true)) := Below.setCell hB5 (Nat.le_refl _) _
          have hR6 := R_elder hR5 (p := ⟨w.heap.size, 5, none⟩) (by show w.heap.size < _; omega) (.bool true)
          go_wp2_with fail
          refine bodyPost_ret (v := .tuple #[.agg #[.int .i64 st, .string fr.loc, .string fr.dom, .slice A5 to_.length c5, .string tx, .bool true], .int .i64 0, .slice none 0 0, .int .i64 0]) (by simp [results, Tryd.results31, go_sem, *]) rfl (postLine_ses rfl hc5.out (toX_of (elder_six hR6 (by omega)) (by omega)) (below_six hB6 (Nat.le_succ _)))
    · rw [if_neg hlg, ← ByteArray.append_assoc]
      replace hlg := Lib.hid (show lg = false by simpa using hlg)
      skip
      skip
      have hK' : Blk ((w.alloc (.cells #[.int .i64 st, .string fr.loc, .string fr.dom, .slice A to_.length c, .string tx, .bool lg] 52)).alloc (.cells #[.int .i64 0, .string ⟨#[]⟩, .string ⟨#[]⟩, .slice none 0 0, .string ⟨#[]⟩, .bool false] 52)) w.heap.size [.int .i64 st, .string fr.loc, .string fr.dom, .slice A to_.length c, .string tx, .bool lg] := (Blk.made w _ _).alloc _
      have hZ' : Blk ((w.alloc (.cells #[.int .i64 st, .string fr.loc, .string fr.dom, .slice A to_.length c, .string tx, .bool lg] 52)).alloc (.cells #[.int .i64 0, .string ⟨#[]⟩, .string ⟨#[]⟩, .slice none 0 0, .string ⟨#[]⟩, .bool false] 52)) (w.heap.size + 1) [.int .i64 0, .string ⟨#[]⟩, .string ⟨#[]⟩, .slice none 0 0, .string ⟨#[]⟩, .bool false] := Blk.made_at _ _ _ (by simp)
      have hb0 : Below w.heap.size w ((w.alloc (.cells #[.int .i64 st, .string fr.loc, .string fr.dom, .slice A to_.length c, .string tx, .bool lg] 52)).alloc (.cells #[.int .i64 0, .string ⟨#[]⟩, .string ⟨#[]⟩, .slice none 0 0, .string ⟨#[]⟩, .bool false] 52)) := (by repeat (first | exact Below.refl _ _ | apply below_alloc | apply pw_below_drewN | apply below_drew1 | (refine Below.setCell ?_ (by first | (simp; done) | (simp; omega) | omega) _) ))
      have k0 := hK'.at 0 _ rfl
      have k1 := hK'.at 1 _ rfl
      have k2 := hK'.at 2 _ rfl
      have k3 := hK'.at 3 _ rfl
      have k4 := hK'.at 4 _ rfl
      have k5 := hK'.at 5 _ rfl
      go_enter Tryd.func31, Tryd.ntmps31
      go_wp2_with fail
      refine (HC.out _ (Kd.C_below hr.out hb0)).mono ?_
      rintro e w1 ⟨rfl, hb1⟩
      have hB1 : Below w.heap.size w w1 := hb0.trans (hb1.mono hb0.size)
      have hK1 := hK'.below hb1 hK'.lt
      have hZ1 := hZ'.below hb1 hZ'.lt
      clear hK' hZ' k0 k1 k2 k3 k4 k5 hb1 hb0
      have kl1 := hK1.lt
      have zl1 := hZ1.lt
      go_wp2_with fail
      go_loopw [11, 12] (fun v i wr => ∃ k : Nat, k ≤ to_.length ∧ i = .int .i64 k ∧ Kd.R kAAddress 49 wr w1.heap.size (fun _ => True) v (to_.take k) ∧ Below w1.heap.size w1 wr) (fun _ i _ => to_.length - (intOf i).toNat)
      case atStart => exact ⟨0, Nat.zero_le _, rfl, Kd.R_nil _ _ _ _ _, Below.refl _ _⟩
      case round =>
        obtain ⟨k, hk, rfl, hR, hB⟩ := hrel
        have hBw : Below w.heap.size w wr := hB1.trans (hB.mono hB1.size)
        have hK4 := hK1.below hB kl1
        have hZ4 := hZ1.below hB zl1
        have hzz := hB.size
        have k3 := hK4.at 3 _ rfl
        have kl := hK4.lt
        obtain ⟨A5, c5, rfl⟩ := Kd.R_slice hR
        have hlk : (to_.take k).length = k := by rw [List.length_take]; omega
        rw [hlk] at hR ⊢
        replace hlk := Lib.hid hlk
        by_cases hlt : k < to_.length
        · obtain ⟨ad, e1, hx0, hxj⟩ := flat_at (Kd.C_below hr.out hBw) k hlt
          subst e1
          have q0 := hx0 _ rfl; have q1 := hxj 1 _ (by decide) rfl
          clear hx0 hxj
          have hts := Lib.hid (List.take_succ_eq_append_getElem hlt)
          generalize to_[k] = y at *
          have i0 : (0 : Int) ≤ (k : Int) := by omega
          have i1 : (k : Int) < (to_.length : Int) := by omega
          go_wp2_with (at_builtin; refine snoc_list rowAAddress w1.heap.size rfl _ _ rfl (.slice A5 k c5) (to_.take k) y [.string y.loc, .string y.dom] (by first | rfl | (simp [Act.eval]; done)) (by first | rfl | (simp [Act.eval]; done)) rfl hR (by omega) (by rw [hlk.out]; omega) ?_)
          intro v8 w8 hR8 hb8 hg8
          have hB8 : Below w1.heap.size w1 w8 := hB.trans hb8
          go_wp2_with fail
          go_roundw
          case rel => exact ⟨k + 1, hlt, by go_num, by rw [hts.out]; exact hR8, hB8⟩
          case measure => simp [intOf]; omega
        · obtain rfl : k = to_.length := by omega
          have i1 : ¬ (to_.length : Int) < (to_.length : Int) := by omega
          rw [List.take_length] at hR
          have g3 := hK4.free 3 _ rfl
          have hc5 := Lib.hid (Kd.R_reads' hR).2.1
          have hK5 := hK4.set 3 (.slice A5 to_.length c5) (by simp)
          have hZ5 := hZ4.other (c := w.heap.size) (j := 3) (by omega) (.slice A5 to_.length c5)
          have hR5 := R_elder hR (p := ⟨w.heap.size, 3, none⟩) (by show w.heap.size < _; omega) (.slice A5 to_.length c5)
          have hB5 : Below w.heap.size w (wr.setCell ⟨w.heap.size, 3, none⟩ (.slice A5 to_.length c5)) := Below.setCell hBw (Nat.le_refl _) _
          have k0 := hK4.at 0 _ rfl
          have k1 := hK4.at 1 _ rfl
          have k2 := hK4.at 2 _ rfl
          have k4 := hK4.at 4 _ rfl
          have k5 := hK4.at 5 _ rfl
          have nz1 : w1.heap.size ≤ (wr.setCell ⟨w.heap.size, 3, none⟩ (.slice A5 to_.length c5)).heap.size := by simp; omega
          obtain rfl := hlg.out
          skip
          skip
          have z0 := (hZ4).at 0 _ rfl
          have z1 := (hZ4).at 1 _ rfl
          have z2 := (hZ4).at 2 _ rfl
          have z3 := (hZ4).at 3 _ rfl
          have z4 := (hZ4).at 4 _ rfl
          have z5 := (hZ4).at 5 _ rfl
          have f0 := (hZ4).free 0 _ rfl
          have f1 := (hZ4).free 1 _ rfl
          have f2 := (hZ4).free 2 _ rfl
          have f3 := (hZ4).free 3 _ rfl
          have f4 := (hZ4).free 4 _ rfl
          have f5 := (hZ4).free 5 _ rfl
          have fl := (hZ4).lt
          have g4 := hK4.free 4 _ rfl
          have hB6 : Below w.heap.size w ((wr.setCell ⟨w.heap.size, 3, none⟩ (.slice A5 to_.length c5)).setCell ⟨w.heap.size, 4, none⟩ (.string (tx ++ (line) ++ ⟨#[13, 10]⟩))) := Below.setCell hB5 (Nat.le_refl _) _
          have hR6 := R_elder hR5 (p := ⟨w.heap.size, 4, none⟩) (by show w.heap.size < _; omega) (.string (tx ++ (line) ++ ⟨#[13, 10]⟩))
          go_wp2_with fail
          refine bodyPost_ret (v := .tuple #[.agg #[.int .i64 st, .string fr.loc, .string fr.dom, .slice A5 to_.length c5, .string (tx ++ (line) ++ ⟨#[13, 10]⟩), .bool false], .int .i64 0, .slice none 0 0, .int .i64 0]) (by simp [results, Tryd.results31, go_sem, *]) rfl (postLine_ses rfl hc5.out (toX_of (elder_six hR6 (by omega)) (by omega)) (below_six hB6 (Nat.le_succ _)))
set_option maxHeartbeats 1000000 in
set_option maxRecDepth 100000 in
theorem lined_bodyN (A : Option Addr) (c : Nat) (A0 : Option Addr) (c0 : Nat) (kn : List ByteArray) (line : ByteArray) (w : World) (st : Int) (fr : AAddress) (to_ : List AAddress) (tx : ByteArray) (lg : Bool) (hr : Kd.C kAAddress w A to_.length to_) (hc : to_.length ≤ c) (ha : fr.loc.size ≤ 1048576) (hb : fr.dom.size ≤ 1048576) (hs : ∀ x ∈ to_, x.loc.size ≤ 1048576 ∧ x.dom.size ≤ 1048576) (hl : line.size ≤ 1048576) (hok : sessMay st fr to_ tx lg) (h4 : st = 4) (hd : ¬ line = ⟨#[46]⟩) (h0 : 0 < line.size) (h46 : ¬ line[0].toNat = 46) : Calls Tryd.prog 31 #[.agg #[.int .i64 st, .string fr.loc, .string fr.dom, .slice A to_.length c, .string tx, .bool lg], .slice A0 kn.length c0, .string line] w (PostLine w (bodyV ⟨st, fr, to_, tx, lg⟩ line, 0, [], 0)) := by
  have HC := Lib.hid (fun w hr => refSession_calls st fr A c to_ tx lg w hr hc ha hb hs)
  rw [sess_yes hok] at HC
  have hlen := hok.2.2.1
  have htx := hok.2.2.2.1
  have hus := undot_size line
  unfold bodyV
  simp only
  clear hok hs
  have i5 : (st == 5) = false := beq_eq_false_iff_ne.mpr (by omega)
  have i4 : (st != 4) = false := by rw [h4]; rfl
  have id := lit_no (l := [46]) hd
  clear h4 hd
  replace hr := Lib.hid hr
  replace hc := Lib.hid hc
  have j0 : (0 : Int) < (line.size : Int) := by omega
  have e0 : nx line 0 = line[0].toNat := nx_in h0
  have hu : undot line = line := by rw [undot_eq, if_neg (by omega)]
  rw [hu] at hus ⊢
  clear e0 hu
  skip
  have hsz := Lib.hid hus
  by_cases hbig : 2000 < tx.size + (line).size + 2
  · rw [if_pos hbig]
    have j1 : (1998 : Int) < (tx.size : Int) + (line).size := by omega
    skip
    clear hbig
    skip
    skip
    have hK' : Blk ((w.alloc (.cells #[.int .i64 st, .string fr.loc, .string fr.dom, .slice A to_.length c, .string tx, .bool lg] 52)).alloc (.cells #[.int .i64 0, .string ⟨#[]⟩, .string ⟨#[]⟩, .slice none 0 0, .string ⟨#[]⟩, .bool false] 52)) w.heap.size [.int .i64 st, .string fr.loc, .string fr.dom, .slice A to_.length c, .string tx, .bool lg] := (Blk.made w _ _).alloc _
    have hZ' : Blk ((w.alloc (.cells #[.int .i64 st, .string fr.loc, .string fr.dom, .slice A to_.length c, .string tx, .bool lg] 52)).alloc (.cells #[.int .i64 0, .string ⟨#[]⟩, .string ⟨#[]⟩, .slice none 0 0, .string ⟨#[]⟩, .bool false] 52)) (w.heap.size + 1) [.int .i64 0, .string ⟨#[]⟩, .string ⟨#[]⟩, .slice none 0 0, .string ⟨#[]⟩, .bool false] := Blk.made_at _ _ _ (by simp)
    have hb0 : Below w.heap.size w ((w.alloc (.cells #[.int .i64 st, .string fr.loc, .string fr.dom, .slice A to_.length c, .string tx, .bool lg] 52)).alloc (.cells #[.int .i64 0, .string ⟨#[]⟩, .string ⟨#[]⟩, .slice none 0 0, .string ⟨#[]⟩, .bool false] 52)) := (by repeat (first | exact Below.refl _ _ | apply below_alloc | apply pw_below_drewN | apply below_drew1 | (refine Below.setCell ?_ (by first | (simp; done) | (simp; omega) | omega) _) ))
    have k0 := hK'.at 0 _ rfl
    have k1 := hK'.at 1 _ rfl
    have k2 := hK'.at 2 _ rfl
    have k3 := hK'.at 3 _ rfl
    have k4 := hK'.at 4 _ rfl
    have k5 := hK'.at 5 _ rfl
    go_enter Tryd.func31, Tryd.ntmps31
    go_wp2_with fail
    refine (HC.out _ (Kd.C_below hr.out hb0)).mono ?_
    rintro e w1 ⟨rfl, hb1⟩
    have hB1 : Below w.heap.size w w1 := hb0.trans (hb1.mono hb0.size)
    have hK1 := hK'.below hb1 hK'.lt
    have hZ1 := hZ'.below hb1 hZ'.lt
    clear hK' hZ' k0 k1 k2 k3 k4 k5 hb1 hb0
    have kl1 := hK1.lt
    have zl1 := hZ1.lt
    go_wp2_with fail
    go_loopw [11, 12] (fun v i wr => ∃ k : Nat, k ≤ to_.length ∧ i = .int .i64 k ∧ Kd.R kAAddress 49 wr w1.heap.size (fun _ => True) v (to_.take k) ∧ Below w1.heap.size w1 wr) (fun _ i _ => to_.length - (intOf i).toNat)
    case atStart => exact ⟨0, Nat.zero_le _, rfl, Kd.R_nil _ _ _ _ _, Below.refl _ _⟩
    case round =>
      obtain ⟨k, hk, rfl, hR, hB⟩ := hrel
      have hBw : Below w.heap.size w wr := hB1.trans (hB.mono hB1.size)
      have hK4 := hK1.below hB kl1
      have hZ4 := hZ1.below hB zl1
      have hzz := hB.size
      have k3 := hK4.at 3 _ rfl
      have kl := hK4.lt
      obtain ⟨A5, c5, rfl⟩ := Kd.R_slice hR
      have hlk : (to_.take k).length = k := by rw [List.length_take]; omega
      rw [hlk] at hR ⊢
      replace hlk := Lib.hid hlk
      by_cases hlt : k < to_.length
      · obtain ⟨ad, e1, hx0, hxj⟩ := flat_at (Kd.C_below hr.out hBw) k hlt
        subst e1
        have q0 := hx0 _ rfl; have q1 := hxj 1 _ (by decide) rfl
        clear hx0 hxj
        have hts := Lib.hid (List.take_succ_eq_append_getElem hlt)
        generalize to_[k] = y at *
        have i0 : (0 : Int) ≤ (k : Int) := by omega
        have i1 : (k : Int) < (to_.length : Int) := by omega
        go_wp2_with (at_builtin; refine snoc_list rowAAddress w1.heap.size rfl _ _ rfl (.slice A5 k c5) (to_.take k) y [.string y.loc, .string y.dom] (by first | rfl | (simp [Act.eval]; done)) (by first | rfl | (simp [Act.eval]; done)) rfl hR (by omega) (by rw [hlk.out]; omega) ?_)
        intro v8 w8 hR8 hb8 hg8
        have hB8 : Below w1.heap.size w1 w8 := hB.trans hb8
        go_wp2_with fail
        go_roundw
        case rel => exact ⟨k + 1, hlt, by go_num, by rw [hts.out]; exact hR8, hB8⟩
        case measure => simp [intOf]; omega
      · obtain rfl : k = to_.length := by omega
        have i1 : ¬ (to_.length : Int) < (to_.length : Int) := by omega
        rw [List.take_length] at hR
        have g3 := hK4.free 3 _ rfl
        have hc5 := Lib.hid (Kd.R_reads' hR).2.1
        have hK5 := hK4.set 3 (.slice A5 to_.length c5) (by simp)
        have hZ5 := hZ4.other (c := w.heap.size) (j := 3) (by omega) (.slice A5 to_.length c5)
        have hR5 := R_elder hR (p := ⟨w.heap.size, 3, none⟩) (by show w.heap.size < _; omega) (.slice A5 to_.length c5)
        have hB5 : Below w.heap.size w (wr.setCell ⟨w.heap.size, 3, none⟩ (.slice A5 to_.length c5)) := Below.setCell hBw (Nat.le_refl _) _
        have k0 := hK4.at 0 _ rfl
        have k1 := hK4.at 1 _ rfl
        have k2 := hK4.at 2 _ rfl
        have k4 := hK4.at 4 _ rfl
        have k5 := hK4.at 5 _ rfl
        have nz1 : w1.heap.size ≤ (wr.setCell ⟨w.heap.size, 3, none⟩ (.slice A5 to_.length c5)).heap.size := by simp; omega
        cases lg with
        | true =>
          skip
          skip
          have z0 := (hZ4).at 0 _ rfl
          have z1 := (hZ4).at 1 _ rfl
          have z2 := (hZ4).at 2 _ rfl
          have z3 := (hZ4).at 3 _ rfl
          have z4 := (hZ4).at 4 _ rfl
          have z5 := (hZ4).at 5 _ rfl
          have f0 := (hZ4).free 0 _ rfl
          have f1 := (hZ4).free 1 _ rfl
          have f2 := (hZ4).free 2 _ rfl
          have f3 := (hZ4).free 3 _ rfl
          have f4 := (hZ4).free 4 _ rfl
          have f5 := (hZ4).free 5 _ rfl
          have fl := (hZ4).lt
          have g5 := hK4.free 5 _ rfl
          have hB6 : Below w.heap.size w ((wr.setCell ⟨w.heap.size, 3, none⟩ (.slice A5 to_.length c5)).setCell ⟨w.heap.size, 5, none⟩ (.bool true)) := Below.setCell hB5 (Nat.le_refl _) _
          have hR6 := R_elder hR5 (p := ⟨w.heap.size, 5, none⟩) (by show w.heap.size < _; omega) (.bool true)
          go_wp2_with fail
          refine bodyPost_ret (v := .tuple #[.agg #[.int .i64 st, .string fr.loc, .string fr.dom, .slice A5 to_.length c5, .string tx, .bool true], .int .i64 0, .slice none 0 0, .int .i64 0]) (by simp [results, Tryd.results31, go_sem, *]) rfl (postLine_ses rfl hc5.out (toX_of (elder_six hR6 (by omega)) (by omega)) (below_six hB6 (Nat.le_succ _)))
        | false =>
          skip
          skip
          have z0 := (hZ4).at 0 _ rfl
          have z1 := (hZ4).at 1 _ rfl
          have z2 := (hZ4).at 2 _ rfl
          have z3 := (hZ4).at 3 _ rfl
          have z4 := (hZ4).at 4 _ rfl
          have z5 := (hZ4).at 5 _ rfl
          have f0 := (hZ4).free 0 _ rfl
          have f1 := (hZ4).free 1 _ rfl
          have f2 := (hZ4).free 2 _ rfl
          have f3 := (hZ4).free 3 _ rfl
          have f4 := (hZ4).free 4 _ rfl
          have f5 := (hZ4).free 5 _ rfl
          have fl := (hZ4).lt
          have g5 := hK4.free 5 _ rfl
          have hB6 : Below w.heap.size w ((wr.setCell ⟨w.heap.size, 3, none⟩ (.slice A5 to_.length c5)).setCell ⟨w.heap.size, 5, none⟩ (.bool true)) := Below.setCell hB5 (Nat.le_refl _) _
          have hR6 := R_elder hR5 (p := ⟨w.heap.size, 5, none⟩) (by show w.heap.size < _; omega) (.bool true)
          go_wp2_with fail
          refine bodyPost_ret (v := .tuple #[.agg #[.int .i64 st, .string fr.loc, .string fr.dom, .slice A5 to_.length c5, .string tx, .bool true], .int .i64 0, .slice none 0 0, .int .i64 0]) (by simp [results, Tryd.results31, go_sem, *]) rfl (postLine_ses rfl hc5.out (toX_of (elder_six hR6 (by omega)) (by omega)) (below_six hB6 (Nat.le_succ _)))
  · rw [if_neg hbig]
    have j1 : ¬ (1998 : Int) < (tx.size : Int) + (line).size := by omega
    skip
    clear hbig
    by_cases hlg : lg = true
    · rw [if_pos hlg]
      replace hlg := Lib.hid hlg
      skip
      skip
      have hK' : Blk ((w.alloc (.cells #[.int .i64 st, .string fr.loc, .string fr.dom, .slice A to_.length c, .string tx, .bool lg] 52)).alloc (.cells #[.int .i64 0, .string ⟨#[]⟩, .string ⟨#[]⟩, .slice none 0 0, .string ⟨#[]⟩, .bool false] 52)) w.heap.size [.int .i64 st, .string fr.loc, .string fr.dom, .slice A to_.length c, .string tx, .bool lg] := (Blk.made w _ _).alloc _
      have hZ' : Blk ((w.alloc (.cells #[.int .i64 st, .string fr.loc, .string fr.dom, .slice A to_.length c, .string tx, .bool lg] 52)).alloc (.cells #[.int .i64 0, .string ⟨#[]⟩, .string ⟨#[]⟩, .slice none 0 0, .string ⟨#[]⟩, .bool false] 52)) (w.heap.size + 1) [.int .i64 0, .string ⟨#[]⟩, .string ⟨#[]⟩, .slice none 0 0, .string ⟨#[]⟩, .bool false] := Blk.made_at _ _ _ (by simp)
      have hb0 : Below w.heap.size w ((w.alloc (.cells #[.int .i64 st, .string fr.loc, .string fr.dom, .slice A to_.length c, .string tx, .bool lg] 52)).alloc (.cells #[.int .i64 0, .string ⟨#[]⟩, .string ⟨#[]⟩, .slice none 0 0, .string ⟨#[]⟩, .bool false] 52)) := (by repeat (first | exact Below.refl _ _ | apply below_alloc | apply pw_below_drewN | apply below_drew1 | (refine Below.setCell ?_ (by first | (simp; done) | (simp; omega) | omega) _) ))
      have k0 := hK'.at 0 _ rfl
      have k1 := hK'.at 1 _ rfl
      have k2 := hK'.at 2 _ rfl
      have k3 := hK'.at 3 _ rfl
      have k4 := hK'.at 4 _ rfl
      have k5 := hK'.at 5 _ rfl
      go_enter Tryd.func31, Tryd.ntmps31
      go_wp2_with fail
      refine (HC.out _ (Kd.C_below hr.out hb0)).mono ?_
      rintro e w1 ⟨rfl, hb1⟩
      have hB1 : Below w.heap.size w w1 := hb0.trans (hb1.mono hb0.size)
      have hK1 := hK'.below hb1 hK'.lt
      have hZ1 := hZ'.below hb1 hZ'.lt
      clear hK' hZ' k0 k1 k2 k3 k4 k5 hb1 hb0
      have kl1 := hK1.lt
      have zl1 := hZ1.lt
      go_wp2_with fail
      go_loopw [11, 12] (fun v i wr => ∃ k : Nat, k ≤ to_.length ∧ i = .int .i64 k ∧ Kd.R kAAddress 49 wr w1.heap.size (fun _ => True) v (to_.take k) ∧ Below w1.heap.size w1 wr) (fun _ i _ => to_.length - (intOf i).toNat)
      case atStart => exact ⟨0, Nat.zero_le _, rfl, Kd.R_nil _ _ _ _ _, Below.refl _ _⟩
      case round =>
        obtain ⟨k, hk, rfl, hR, hB⟩ := hrel
        have hBw : Below w.heap.size w wr := hB1.trans (hB.mono hB1.size)
        have hK4 := hK1.below hB kl1
        have hZ4 := hZ1.below hB zl1
        have hzz := hB.size
        have k3 := hK4.at 3 _ rfl
        have kl := hK4.lt
        obtain ⟨A5, c5, rfl⟩ := Kd.R_slice hR
        have hlk : (to_.take k).length = k := by rw [List.length_take]; omega
        rw [hlk] at hR ⊢
        replace hlk := Lib.hid hlk
        by_cases hlt : k < to_.length
        · obtain ⟨ad, e1, hx0, hxj⟩ := flat_at (Kd.C_below hr.out hBw) k hlt
          subst e1
          have q0 := hx0 _ rfl; have q1 := hxj 1 _ (by decide) rfl
          clear hx0 hxj
          have hts := Lib.hid (List.take_succ_eq_append_getElem hlt)
          generalize to_[k] = y at *
          have i0 : (0 : Int) ≤ (k : Int) := by omega
          have i1 : (k : Int) < (to_.length : Int) := by omega
          go_wp2_with (at_builtin; refine snoc_list rowAAddress w1.heap.size rfl _ _ rfl (.slice A5 k c5) (to_.take k) y [.string y.loc, .string y.dom] (by first | rfl | (simp [Act.eval]; done)) (by first | rfl | (simp [Act.eval]; done)) rfl hR (by omega) (by rw [hlk.out]; omega) ?_)
          intro v8 w8 hR8 hb8 hg8
          have hB8 : Below w1.heap.size w1 w8 := hB.trans hb8
          go_wp2_with fail
          go_roundw
          case rel => exact ⟨k + 1, hlt, by go_num, by rw [hts.out]; exact hR8, hB8⟩
          case measure => simp [intOf]; omega
        · obtain rfl : k = to_.length := by omega
          have i1 : ¬ (to_.length : Int) < (to_.length : Int) := by omega
          rw [List.take_length] at hR
          have g3 := hK4.free 3 _ rfl
          have hc5 := Lib.hid (Kd.R_reads' hR).2.1
          have hK5 := hK4.set 3 (.slice A5 to_.length c5) (by simp)
          have hZ5 := hZ4.other (c := w.heap.size) (j := 3) (by omega) (.slice A5 to_.length c5)
          have hR5 := R_elder hR (p := ⟨w.heap.size, 3, none⟩) (by show w.heap.size < _; omega) (.slice A5 to_.length c5)
          have hB5 : Below w.heap.size w (wr.setCell ⟨w.heap.size, 3, none⟩ (.slice A5 to_.length c5)) := Below.setCell hBw (Nat.le_refl _) _
          have k0 := hK4.at 0 _ rfl
          have k1 := hK4.at 1 _ rfl
          have k2 := hK4.at 2 _ rfl
          have k4 := hK4.at 4 _ rfl
          have k5 := hK4.at 5 _ rfl
          have nz1 : w1.heap.size ≤ (wr.setCell ⟨w.heap.size, 3, none⟩ (.slice A5 to_.length c5)).heap.size := by simp; omega
          obtain rfl := hlg.out
          skip
          skip
          have z0 := (hZ4).at 0 _ rfl
          have z1 := (hZ4).at 1 _ rfl
          have z2 := (hZ4).at 2 _ rfl
          have z3 := (hZ4).at 3 _ rfl
          have z4 := (hZ4).at 4 _ rfl
          have z5 := (hZ4).at 5 _ rfl
          have f0 := (hZ4).free 0 _ rfl
          have f1 := (hZ4).free 1 _ rfl
          have f2 := (hZ4).free 2 _ rfl
          have f3 := (hZ4).free 3 _ rfl
          have f4 := (hZ4).free 4 _ rfl
          have f5 := (hZ4).free 5 _ rfl
          have fl := (hZ4).lt
          have g5 := hK4.free 5 _ rfl
          have hB6 : Below w.heap.size w ((wr.setCell ⟨w.heap.size, 3, none⟩ (.slice A5 to_.length c5)).setCell ⟨w.heap.size, 5, none⟩ (.bool true)) := Below.setCell hB5 (Nat.le_refl _) _
          have hR6 := R_elder hR5 (p := ⟨w.heap.size, 5, none⟩) (by show w.heap.size < _; omega) (.bool true)
          go_wp2_with fail
          refine bodyPost_ret (v := .tuple #[.agg #[.int .i64 st, .string fr.loc, .string fr.dom, .slice A5 to_.length c5, .string tx, .bool true], .int .i64 0, .slice none 0 0, .int .i64 0]) (by simp [results, Tryd.results31, go_sem, *]) rfl (postLine_ses rfl hc5.out (toX_of (elder_six hR6 (by omega)) (by omega)) (below_six hB6 (Nat.le_succ _)))
    · rw [if_neg hlg, ← ByteArray.append_assoc]
      replace hlg := Lib.hid (show lg = false by simpa using hlg)
      skip
      skip
      have hK' : Blk ((w.alloc (.cells #[.int .i64 st, .string fr.loc, .string fr.dom, .slice A to_.length c, .string tx, .bool lg] 52)).alloc (.cells #[.int .i64 0, .string ⟨#[]⟩, .string ⟨#[]⟩, .slice none 0 0, .string ⟨#[]⟩, .bool false] 52)) w.heap.size [.int .i64 st, .string fr.loc, .string fr.dom, .slice A to_.length c, .string tx, .bool lg] := (Blk.made w _ _).alloc _
      have hZ' : Blk ((w.alloc (.cells #[.int .i64 st, .string fr.loc, .string fr.dom, .slice A to_.length c, .string tx, .bool lg] 52)).alloc (.cells #[.int .i64 0, .string ⟨#[]⟩, .string ⟨#[]⟩, .slice none 0 0, .string ⟨#[]⟩, .bool false] 52)) (w.heap.size + 1) [.int .i64 0, .string ⟨#[]⟩, .string ⟨#[]⟩, .slice none 0 0, .string ⟨#[]⟩, .bool false] := Blk.made_at _ _ _ (by simp)
      have hb0 : Below w.heap.size w ((w.alloc (.cells #[.int .i64 st, .string fr.loc, .string fr.dom, .slice A to_.length c, .string tx, .bool lg] 52)).alloc (.cells #[.int .i64 0, .string ⟨#[]⟩, .string ⟨#[]⟩, .slice none 0 0, .string ⟨#[]⟩, .bool false] 52)) := (by repeat (first | exact Below.refl _ _ | apply below_alloc | apply pw_below_drewN | apply below_drew1 | (refine Below.setCell ?_ (by first | (simp; done) | (simp; omega) | omega) _) ))
      have k0 := hK'.at 0 _ rfl
      have k1 := hK'.at 1 _ rfl
      have k2 := hK'.at 2 _ rfl
      have k3 := hK'.at 3 _ rfl
      have k4 := hK'.at 4 _ rfl
      have k5 := hK'.at 5 _ rfl
      go_enter Tryd.func31, Tryd.ntmps31
      go_wp2_with fail
      refine (HC.out _ (Kd.C_below hr.out hb0)).mono ?_
      rintro e w1 ⟨rfl, hb1⟩
      have hB1 : Below w.heap.size w w1 := hb0.trans (hb1.mono hb0.size)
      have hK1 := hK'.below hb1 hK'.lt
      have hZ1 := hZ'.below hb1 hZ'.lt
      clear hK' hZ' k0 k1 k2 k3 k4 k5 hb1 hb0
      have kl1 := hK1.lt
      have zl1 := hZ1.lt
      go_wp2_with fail
      go_loopw [11, 12] (fun v i wr => ∃ k : Nat, k ≤ to_.length ∧ i = .int .i64 k ∧ Kd.R kAAddress 49 wr w1.heap.size (fun _ => True) v (to_.take k) ∧ Below w1.heap.size w1 wr) (fun _ i _ => to_.length - (intOf i).toNat)
      case atStart => exact ⟨0, Nat.zero_le _, rfl, Kd.R_nil _ _ _ _ _, Below.refl _ _⟩
      case round =>
        obtain ⟨k, hk, rfl, hR, hB⟩ := hrel
        have hBw : Below w.heap.size w wr := hB1.trans (hB.mono hB1.size)
        have hK4 := hK1.below hB kl1
        have hZ4 := hZ1.below hB zl1
        have hzz := hB.size
        have k3 := hK4.at 3 _ rfl
        have kl := hK4.lt
        obtain ⟨A5, c5, rfl⟩ := Kd.R_slice hR
        have hlk : (to_.take k).length = k := by rw [List.length_take]; omega
        rw [hlk] at hR ⊢
        replace hlk := Lib.hid hlk
        by_cases hlt : k < to_.length
        · obtain ⟨ad, e1, hx0, hxj⟩ := flat_at (Kd.C_below hr.out hBw) k hlt
          subst e1
          have q0 := hx0 _ rfl; have q1 := hxj 1 _ (by decide) rfl
          clear hx0 hxj
          have hts := Lib.hid (List.take_succ_eq_append_getElem hlt)
          generalize to_[k] = y at *
          have i0 : (0 : Int) ≤ (k : Int) := by omega
          have i1 : (k : Int) < (to_.length : Int) := by omega
          go_wp2_with (at_builtin; refine snoc_list rowAAddress w1.heap.size rfl _ _ rfl (.slice A5 k c5) (to_.take k) y [.string y.loc, .string y.dom] (by first | rfl | (simp [Act.eval]; done)) (by first | rfl | (simp [Act.eval]; done)) rfl hR (by omega) (by rw [hlk.out]; omega) ?_)
          intro v8 w8 hR8 hb8 hg8
          have hB8 : Below w1.heap.size w1 w8 := hB.trans hb8
          go_wp2_with fail
          go_roundw
          case rel => exact ⟨k + 1, hlt, by go_num, by rw [hts.out]; exact hR8, hB8⟩
          case measure => simp [intOf]; omega
        · obtain rfl : k = to_.length := by omega
          have i1 : ¬ (to_.length : Int) < (to_.length : Int) := by omega
          rw [List.take_length] at hR
          have g3 := hK4.free 3 _ rfl
          have hc5 := Lib.hid (Kd.R_reads' hR).2.1
          have hK5 := hK4.set 3 (.slice A5 to_.length c5) (by simp)
          have hZ5 := hZ4.other (c := w.heap.size) (j := 3) (by omega) (.slice A5 to_.length c5)
          have hR5 := R_elder hR (p := ⟨w.heap.size, 3, none⟩) (by show w.heap.size < _; omega) (.slice A5 to_.length c5)
          have hB5 : Below w.heap.size w (wr.setCell ⟨w.heap.size, 3, none⟩ (.slice A5 to_.length c5)) := Below.setCell hBw (Nat.le_refl _) _
          have k0 := hK4.at 0 _ rfl
          have k1 := hK4.at 1 _ rfl
          have k2 := hK4.at 2 _ rfl
          have k4 := hK4.at 4 _ rfl
          have k5 := hK4.at 5 _ rfl
          have nz1 : w1.heap.size ≤ (wr.setCell ⟨w.heap.size, 3, none⟩ (.slice A5 to_.length c5)).heap.size := by simp; omega
          obtain rfl := hlg.out
          skip
          skip
          have z0 := (hZ4).at 0 _ rfl
          have z1 := (hZ4).at 1 _ rfl
          have z2 := (hZ4).at 2 _ rfl
          have z3 := (hZ4).at 3 _ rfl
          have z4 := (hZ4).at 4 _ rfl
          have z5 := (hZ4).at 5 _ rfl
          have f0 := (hZ4).free 0 _ rfl
          have f1 := (hZ4).free 1 _ rfl
          have f2 := (hZ4).free 2 _ rfl
          have f3 := (hZ4).free 3 _ rfl
          have f4 := (hZ4).free 4 _ rfl
          have f5 := (hZ4).free 5 _ rfl
          have fl := (hZ4).lt
          have g4 := hK4.free 4 _ rfl
          have hB6 : Below w.heap.size w ((wr.setCell ⟨w.heap.size, 3, none⟩ (.slice A5 to_.length c5)).setCell ⟨w.heap.size, 4, none⟩ (.string (tx ++ (line) ++ ⟨#[13, 10]⟩))) := Below.setCell hB5 (Nat.le_refl _) _
          have hR6 := R_elder hR5 (p := ⟨w.heap.size, 4, none⟩) (by show w.heap.size < _; omega) (.string (tx ++ (line) ++ ⟨#[13, 10]⟩))
          go_wp2_with fail
          refine bodyPost_ret (v := .tuple #[.agg #[.int .i64 st, .string fr.loc, .string fr.dom, .slice A5 to_.length c5, .string (tx ++ (line) ++ ⟨#[13, 10]⟩), .bool false], .int .i64 0, .slice none 0 0, .int .i64 0]) (by simp [results, Tryd.results31, go_sem, *]) rfl (postLine_ses rfl hc5.out (toX_of (elder_six hR6 (by omega)) (by omega)) (below_six hB6 (Nat.le_succ _)))
set_option maxHeartbeats 1000000 in
set_option maxRecDepth 100000 in
theorem lined_bodyD (A : Option Addr) (c : Nat) (A0 : Option Addr) (c0 : Nat) (kn : List ByteArray) (line : ByteArray) (w : World) (st : Int) (fr : AAddress) (to_ : List AAddress) (tx : ByteArray) (lg : Bool) (hr : Kd.C kAAddress w A to_.length to_) (hc : to_.length ≤ c) (ha : fr.loc.size ≤ 1048576) (hb : fr.dom.size ≤ 1048576) (hs : ∀ x ∈ to_, x.loc.size ≤ 1048576 ∧ x.dom.size ≤ 1048576) (hl : line.size ≤ 1048576) (hok : sessMay st fr to_ tx lg) (h4 : st = 4) (hd : ¬ line = ⟨#[46]⟩) (h0 : 0 < line.size) (h46 : line[0].toNat = 46) : Calls Tryd.prog 31 #[.agg #[.int .i64 st, .string fr.loc, .string fr.dom, .slice A to_.length c, .string tx, .bool lg], .slice A0 kn.length c0, .string line] w (PostLine w (bodyV ⟨st, fr, to_, tx, lg⟩ line, 0, [], 0)) := by
  have HC := Lib.hid (fun w hr => refSession_calls st fr A c to_ tx lg w hr hc ha hb hs)
  rw [sess_yes hok] at HC
  have hlen := hok.2.2.1
  have htx := hok.2.2.2.1
  have hus := undot_size line
  unfold bodyV
  simp only
  clear hok hs
  have i5 : (st == 5) = false := beq_eq_false_iff_ne.mpr (by omega)
  have i4 : (st != 4) = false := by rw [h4]; rfl
  have id := lit_no (l := [46]) hd
  clear h4 hd
  replace hr := Lib.hid hr
  replace hc := Lib.hid hc
  have j0 : (0 : Int) < (line.size : Int) := by omega
  have e0 : nx line 0 = line[0].toNat := nx_in h0
  have hu : undot line = line.extract 1 line.size := by rw [undot_eq, if_pos ⟨h0, by omega⟩]
  rw [hu] at hus ⊢
  clear e0 hu
  have js : (1 : Int) ≤ (line.size : Int) := by omega
  have jz : (line.extract 1 line.size).size = line.size - 1 := by simp
  skip
  have hsz := Lib.hid hus
  by_cases hbig : 2000 < tx.size + (line.extract 1 line.size).size + 2
  · rw [if_pos hbig]
    have j1 : (1998 : Int) < (tx.size : Int) + (line.extract 1 line.size).size := by omega
    have j2 : (1998 : Int) < (tx.size : Int) + ((line.size - 1 : Nat) : Int) := by omega
    clear hbig
    skip
    skip
    have hK' : Blk ((w.alloc (.cells #[.int .i64 st, .string fr.loc, .string fr.dom, .slice A to_.length c, .string tx, .bool lg] 52)).alloc (.cells #[.int .i64 0, .string ⟨#[]⟩, .string ⟨#[]⟩, .slice none 0 0, .string ⟨#[]⟩, .bool false] 52)) w.heap.size [.int .i64 st, .string fr.loc, .string fr.dom, .slice A to_.length c, .string tx, .bool lg] := (Blk.made w _ _).alloc _
    have hZ' : Blk ((w.alloc (.cells #[.int .i64 st, .string fr.loc, .string fr.dom, .slice A to_.length c, .string tx, .bool lg] 52)).alloc (.cells #[.int .i64 0, .string ⟨#[]⟩, .string ⟨#[]⟩, .slice none 0 0, .string ⟨#[]⟩, .bool false] 52)) (w.heap.size + 1) [.int .i64 0, .string ⟨#[]⟩, .string ⟨#[]⟩, .slice none 0 0, .string ⟨#[]⟩, .bool false] := Blk.made_at _ _ _ (by simp)
    have hb0 : Below w.heap.size w ((w.alloc (.cells #[.int .i64 st, .string fr.loc, .string fr.dom, .slice A to_.length c, .string tx, .bool lg] 52)).alloc (.cells #[.int .i64 0, .string ⟨#[]⟩, .string ⟨#[]⟩, .slice none 0 0, .string ⟨#[]⟩, .bool false] 52)) := (by repeat (first | exact Below.refl _ _ | apply below_alloc | apply pw_below_drewN | apply below_drew1 | (refine Below.setCell ?_ (by first | (simp; done) | (simp; omega) | omega) _) ))
    have k0 := hK'.at 0 _ rfl
    have k1 := hK'.at 1 _ rfl
    have k2 := hK'.at 2 _ rfl
    have k3 := hK'.at 3 _ rfl
    have k4 := hK'.at 4 _ rfl
    have k5 := hK'.at 5 _ rfl
    go_enter Tryd.func31, Tryd.ntmps31
    go_wp2_with fail
    refine (HC.out _ (Kd.C_below hr.out hb0)).mono ?_
    rintro e w1 ⟨rfl, hb1⟩
    have hB1 : Below w.heap.size w w1 := hb0.trans (hb1.mono hb0.size)
    have hK1 := hK'.below hb1 hK'.lt
    have hZ1 := hZ'.below hb1 hZ'.lt
    clear hK' hZ' k0 k1 k2 k3 k4 k5 hb1 hb0
    have kl1 := hK1.lt
    have zl1 := hZ1.lt
    go_wp2_with fail
    go_loopw [11, 12] (fun v i wr => ∃ k : Nat, k ≤ to_.length ∧ i = .int .i64 k ∧ Kd.R kAAddress 49 wr w1.heap.size (fun _ => True) v (to_.take k) ∧ Below w1.heap.size w1 wr) (fun _ i _ => to_.length - (intOf i).toNat)
    case atStart => exact ⟨0, Nat.zero_le _, rfl, Kd.R_nil _ _ _ _ _, Below.refl _ _⟩
    case round =>
      obtain ⟨k, hk, rfl, hR, hB⟩ := hrel
      have hBw : Below w.heap.size w wr := hB1.trans (hB.mono hB1.size)
      have hK4 := hK1.below hB kl1
      have hZ4 := hZ1.below hB zl1
      have hzz := hB.size
      have k3 := hK4.at 3 _ rfl
      have kl := hK4.lt
      obtain ⟨A5, c5, rfl⟩ := Kd.R_slice hR
      have hlk : (to_.take k).length = k := by rw [List.length_take]; omega
      rw [hlk] at hR ⊢
      replace hlk := Lib.hid hlk
      by_cases hlt : k < to_.length
      · obtain ⟨ad, e1, hx0, hxj⟩ := flat_at (Kd.C_below hr.out hBw) k hlt
        subst e1
        have q0 := hx0 _ rfl; have q1 := hxj 1 _ (by decide) rfl
        clear hx0 hxj
        have hts := Lib.hid (List.take_succ_eq_append_getElem hlt)
        generalize to_[k] = y at *
        have i0 : (0 : Int) ≤ (k : Int) := by omega
        have i1 : (k : Int) < (to_.length : Int) := by omega
        go_wp2_with (at_builtin; refine snoc_list rowAAddress w1.heap.size rfl _ _ rfl (.slice A5 k c5) (to_.take k) y [.string y.loc, .string y.dom] (by first | rfl | (simp [Act.eval]; done)) (by first | rfl | (simp [Act.eval]; done)) rfl hR (by omega) (by rw [hlk.out]; omega) ?_)
        intro v8 w8 hR8 hb8 hg8
        have hB8 : Below w1.heap.size w1 w8 := hB.trans hb8
        go_wp2_with fail
        go_roundw
        case rel => exact ⟨k + 1, hlt, by go_num, by rw [hts.out]; exact hR8, hB8⟩
        case measure => simp [intOf]; omega
      · obtain rfl : k = to_.length := by omega
        have i1 : ¬ (to_.length : Int) < (to_.length : Int) := by omega
        rw [List.take_length] at hR
        have g3 := hK4.free 3 _ rfl
        have hc5 := Lib.hid (Kd.R_reads' hR).2.1
        have hK5 := hK4.set 3 (.slice A5 to_.length c5) (by simp)
        have hZ5 := hZ4.other (c := w.heap.size) (j := 3) (by omega) (.slice A5 to_.length c5)
        have hR5 := R_elder hR (p := ⟨w.heap.size, 3, none⟩) (by show w.heap.size < _; omega) (.slice A5 to_.length c5)
        have hB5 : Below w.heap.size w (wr.setCell ⟨w.heap.size, 3, none⟩ (.slice A5 to_.length c5)) := Below.setCell hBw (Nat.le_refl _) _
        have k0 := hK4.at 0 _ rfl
        have k1 := hK4.at 1 _ rfl
        have k2 := hK4.at 2 _ rfl
        have k4 := hK4.at 4 _ rfl
        have k5 := hK4.at 5 _ rfl
        have nz1 : w1.heap.size ≤ (wr.setCell ⟨w.heap.size, 3, none⟩ (.slice A5 to_.length c5)).heap.size := by simp; omega
        cases lg with
        | true =>
          skip
          skip
          have z0 := (hZ4).at 0 _ rfl
          have z1 := (hZ4).at 1 _ rfl
          have z2 := (hZ4).at 2 _ rfl
          have z3 := (hZ4).at 3 _ rfl
          have z4 := (hZ4).at 4 _ rfl
          have z5 := (hZ4).at 5 _ rfl
          have f0 := (hZ4).free 0 _ rfl
          have f1 := (hZ4).free 1 _ rfl
          have f2 := (hZ4).free 2 _ rfl
          have f3 := (hZ4).free 3 _ rfl
          have f4 := (hZ4).free 4 _ rfl
          have f5 := (hZ4).free 5 _ rfl
          have fl := (hZ4).lt
          have g5 := hK4.free 5 _ rfl
          have hB6 : Below w.heap.size w ((wr.setCell ⟨w.heap.size, 3, none⟩ (.slice A5 to_.length c5)).setCell ⟨w.heap.size, 5, none⟩ (.bool true)) := Below.setCell hB5 (Nat.le_refl _) _
          have hR6 := R_elder hR5 (p := ⟨w.heap.size, 5, none⟩) (by show w.heap.size < _; omega) (.bool true)
          go_wp2_with fail
          refine bodyPost_ret (v := .tuple #[.agg #[.int .i64 st, .string fr.loc, .string fr.dom, .slice A5 to_.length c5, .string tx, .bool true], .int .i64 0, .slice none 0 0, .int .i64 0]) (by simp [results, Tryd.results31, go_sem, *]) rfl (postLine_ses rfl hc5.out (toX_of (elder_six hR6 (by omega)) (by omega)) (below_six hB6 (Nat.le_succ _)))
        | false =>
          skip
          skip
          have z0 := (hZ4).at 0 _ rfl
          have z1 := (hZ4).at 1 _ rfl
          have z2 := (hZ4).at 2 _ rfl
          have z3 := (hZ4).at 3 _ rfl
          have z4 := (hZ4).at 4 _ rfl
          have z5 := (hZ4).at 5 _ rfl
          have f0 := (hZ4).free 0 _ rfl
          have f1 := (hZ4).free 1 _ rfl
          have f2 := (hZ4).free 2 _ rfl
          have f3 := (hZ4).free 3 _ rfl
          have f4 := (hZ4).free 4 _ rfl
          have f5 := (hZ4).free 5 _ rfl
          have fl := (hZ4).lt
          have g5 := hK4.free 5 _ rfl
          have hB6 : Below w.heap.size w ((wr.setCell ⟨w.heap.size, 3, none⟩ (.slice A5 to_.length c5)).setCell ⟨w.heap.size, 5, none⟩ (.bool true)) := Below.setCell hB5 (Nat.le_refl _) _
          have hR6 := R_elder hR5 (p := ⟨w.heap.size, 5, none⟩) (by show w.heap.size < _; omega) (.bool true)
          go_wp2_with fail
          refine bodyPost_ret (v := .tuple #[.agg #[.int .i64 st, .string fr.loc, .string fr.dom, .slice A5 to_.length c5, .string tx, .bool true], .int .i64 0, .slice none 0 0, .int .i64 0]) (by simp [results, Tryd.results31, go_sem, *]) rfl (postLine_ses rfl hc5.out (toX_of (elder_six hR6 (by omega)) (by omega)) (below_six hB6 (Nat.le_succ _)))
  · rw [if_neg hbig]
    have j1 : ¬ (1998 : Int) < (tx.size : Int) + (line.extract 1 line.size).size := by omega
    have j2 : ¬ (1998 : Int) < (tx.size : Int) + ((line.size - 1 : Nat) : Int) := by omega
    clear hbig
    by_cases hlg : lg = true
    · rw [if_pos hlg]
      replace hlg := Lib.hid hlg
      skip
      skip
      have hK' : Blk ((w.alloc (.cells #[.int .i64 st, .string fr.loc, .string fr.dom, .slice A to_.length c, .string tx, .bool lg] 52)).alloc (.cells #[.int .i64 0, .string ⟨#[]⟩, .string ⟨#[]⟩, .slice none 0 0, .string ⟨#[]⟩, .bool false] 52)) w.heap.size [.int .i64 st, .string fr.loc, .string fr.dom, .slice A to_.length c, .string tx, .bool lg] := (Blk.made w _ _).alloc _
      have hZ' : Blk ((w.alloc (.cells #[.int .i64 st, .string fr.loc, .string fr.dom, .slice A to_.length c, .string tx, .bool lg] 52)).alloc (.cells #[.int .i64 0, .string ⟨#[]⟩, .string ⟨#[]⟩, .slice none 0 0, .string ⟨#[]⟩, .bool false] 52)) (w.heap.size + 1) [.int .i64 0, .string ⟨#[]⟩, .string ⟨#[]⟩, .slice none 0 0, .string ⟨#[]⟩, .bool false] := Blk.made_at _ _ _ (by simp)
      have hb0 : Below w.heap.size w ((w.alloc (.cells #[.int .i64 st, .string fr.loc, .string fr.dom, .slice A to_.length c, .string tx, .bool lg] 52)).alloc (.cells #[.int .i64 0, .string ⟨#[]⟩, .string ⟨#[]⟩, .slice none 0 0, .string ⟨#[]⟩, .bool false] 52)) := (by repeat (first | exact Below.refl _ _ | apply below_alloc | apply pw_below_drewN | apply below_drew1 | (refine Below.setCell ?_ (by first | (simp; done) | (simp; omega) | omega) _) ))
      have k0 := hK'.at 0 _ rfl
      have k1 := hK'.at 1 _ rfl
      have k2 := hK'.at 2 _ rfl
      have k3 := hK'.at 3 _ rfl
      have k4 := hK'.at 4 _ rfl
      have k5 := hK'.at 5 _ rfl
      go_enter Tryd.func31, Tryd.ntmps31
      go_wp2_with fail
      refine (HC.out _ (Kd.C_below hr.out hb0)).mono ?_
      rintro e w1 ⟨rfl, hb1⟩
      have hB1 : Below w.heap.size w w1 := hb0.trans (hb1.mono hb0.size)
      have hK1 := hK'.below hb1 hK'.lt
      have hZ1 := hZ'.below hb1 hZ'.lt
      clear hK' hZ' k0 k1 k2 k3 k4 k5 hb1 hb0
      have kl1 := hK1.lt
      have zl1 := hZ1.lt
      go_wp2_with fail
      go_loopw [11, 12] (fun v i wr => ∃ k : Nat, k ≤ to_.length ∧ i = .int .i64 k ∧ Kd.R kAAddress 49 wr w1.heap.size (fun _ => True) v (to_.take k) ∧ Below w1.heap.size w1 wr) (fun _ i _ => to_.length - (intOf i).toNat)
      case atStart => exact ⟨0, Nat.zero_le _, rfl, Kd.R_nil _ _ _ _ _, Below.refl _ _⟩
      case round =>
        obtain ⟨k, hk, rfl, hR, hB⟩ := hrel
        have hBw : Below w.heap.size w wr := hB1.trans (hB.mono hB1.size)
        have hK4 := hK1.below hB kl1
        have hZ4 := hZ1.below hB zl1
        have hzz := hB.size
        have k3 := hK4.at 3 _ rfl
        have kl := hK4.lt
        obtain ⟨A5, c5, rfl⟩ := Kd.R_slice hR
        have hlk : (to_.take k).length = k := by rw [List.length_take]; omega
        rw [hlk] at hR ⊢
        replace hlk := Lib.hid hlk
        by_cases hlt : k < to_.length
        · obtain ⟨ad, e1, hx0, hxj⟩ := flat_at (Kd.C_below hr.out hBw) k hlt
          subst e1
          have q0 := hx0 _ rfl; have q1 := hxj 1 _ (by decide) rfl
          clear hx0 hxj
          have hts := Lib.hid (List.take_succ_eq_append_getElem hlt)
          generalize to_[k] = y at *
          have i0 : (0 : Int) ≤ (k : Int) := by omega
          have i1 : (k : Int) < (to_.length : Int) := by omega
          go_wp2_with (at_builtin; refine snoc_list rowAAddress w1.heap.size rfl _ _ rfl (.slice A5 k c5) (to_.take k) y [.string y.loc, .string y.dom] (by first | rfl | (simp [Act.eval]; done)) (by first | rfl | (simp [Act.eval]; done)) rfl hR (by omega) (by rw [hlk.out]; omega) ?_)
          intro v8 w8 hR8 hb8 hg8
          have hB8 : Below w1.heap.size w1 w8 := hB.trans hb8
          go_wp2_with fail
          go_roundw
          case rel => exact ⟨k + 1, hlt, by go_num, by rw [hts.out]; exact hR8, hB8⟩
          case measure => simp [intOf]; omega
        · obtain rfl : k = to_.length := by omega
          have i1 : ¬ (to_.length : Int) < (to_.length : Int) := by omega
          rw [List.take_length] at hR
          have g3 := hK4.free 3 _ rfl
          have hc5 := Lib.hid (Kd.R_reads' hR).2.1
          have hK5 := hK4.set 3 (.slice A5 to_.length c5) (by simp)
          have hZ5 := hZ4.other (c := w.heap.size) (j := 3) (by omega) (.slice A5 to_.length c5)
          have hR5 := R_elder hR (p := ⟨w.heap.size, 3, none⟩) (by show w.heap.size < _; omega) (.slice A5 to_.length c5)
          have hB5 : Below w.heap.size w (wr.setCell ⟨w.heap.size, 3, none⟩ (.slice A5 to_.length c5)) := Below.setCell hBw (Nat.le_refl _) _
          have k0 := hK4.at 0 _ rfl
          have k1 := hK4.at 1 _ rfl
          have k2 := hK4.at 2 _ rfl
          have k4 := hK4.at 4 _ rfl
          have k5 := hK4.at 5 _ rfl
          have nz1 : w1.heap.size ≤ (wr.setCell ⟨w.heap.size, 3, none⟩ (.slice A5 to_.length c5)).heap.size := by simp; omega
          obtain rfl := hlg.out
          skip
          skip
          have z0 := (hZ4).at 0 _ rfl
          have z1 := (hZ4).at 1 _ rfl
          have z2 := (hZ4).at 2 _ rfl
          have z3 := (hZ4).at 3 _ rfl
          have z4 := (hZ4).at 4 _ rfl
          have z5 := (hZ4).at 5 _ rfl
          have f0 := (hZ4).free 0 _ rfl
          have f1 := (hZ4).free 1 _ rfl
          have f2 := (hZ4).free 2 _ rfl
          have f3 := (hZ4).free 3 _ rfl
          have f4 := (hZ4).free 4 _ rfl
          have f5 := (hZ4).free 5 _ rfl
          have fl := (hZ4).lt
          have g5 := hK4.free 5 _ rfl
          have hB6 : Below w.heap.size w ((wr.setCell ⟨w.heap.size, 3, none⟩ (.slice A5 to_.length c5)).setCell ⟨w.heap.size, 5, none⟩ (.bool true)) := Below.setCell hB5 (Nat.le_refl _) _
          have hR6 := R_elder hR5 (p := ⟨w.heap.size, 5, none⟩) (by show w.heap.size < _; omega) (.bool true)
          go_wp2_with fail
          refine bodyPost_ret (v := .tuple #[.agg #[.int .i64 st, .string fr.loc, .string fr.dom, .slice A5 to_.length c5, .string tx, .bool true], .int .i64 0, .slice none 0 0, .int .i64 0]) (by simp [results, Tryd.results31, go_sem, *]) rfl (postLine_ses rfl hc5.out (toX_of (elder_six hR6 (by omega)) (by omega)) (below_six hB6 (Nat.le_succ _)))
    · rw [if_neg hlg, ← ByteArray.append_assoc]
      replace hlg := Lib.hid (show lg = false by simpa using hlg)
      skip
      skip
      have hK' : Blk ((w.alloc (.cells #[.int .i64 st, .string fr.loc, .string fr.dom, .slice A to_.length c, .string tx, .bool lg] 52)).alloc (.cells #[.int .i64 0, .string ⟨#[]⟩, .string ⟨#[]⟩, .slice none 0 0, .string ⟨#[]⟩, .bool false] 52)) w.heap.size [.int .i64 st, .string fr.loc, .string fr.dom, .slice A to_.length c, .string tx, .bool lg] := (Blk.made w _ _).alloc _
      have hZ' : Blk ((w.alloc (.cells #[.int .i64 st, .string fr.loc, .string fr.dom, .slice A to_.length c, .string tx, .bool lg] 52)).alloc (.cells #[.int .i64 0, .string ⟨#[]⟩, .string ⟨#[]⟩, .slice none 0 0, .string ⟨#[]⟩, .bool false] 52)) (w.heap.size + 1) [.int .i64 0, .string ⟨#[]⟩, .string ⟨#[]⟩, .slice none 0 0, .string ⟨#[]⟩, .bool false] := Blk.made_at _ _ _ (by simp)
      have hb0 : Below w.heap.size w ((w.alloc (.cells #[.int .i64 st, .string fr.loc, .string fr.dom, .slice A to_.length c, .string tx, .bool lg] 52)).alloc (.cells #[.int .i64 0, .string ⟨#[]⟩, .string ⟨#[]⟩, .slice none 0 0, .string ⟨#[]⟩, .bool false] 52)) := (by repeat (first | exact Below.refl _ _ | apply below_alloc | apply pw_below_drewN | apply below_drew1 | (refine Below.setCell ?_ (by first | (simp; done) | (simp; omega) | omega) _) ))
      have k0 := hK'.at 0 _ rfl
      have k1 := hK'.at 1 _ rfl
      have k2 := hK'.at 2 _ rfl
      have k3 := hK'.at 3 _ rfl
      have k4 := hK'.at 4 _ rfl
      have k5 := hK'.at 5 _ rfl
      go_enter Tryd.func31, Tryd.ntmps31
      go_wp2_with fail
      refine (HC.out _ (Kd.C_below hr.out hb0)).mono ?_
      rintro e w1 ⟨rfl, hb1⟩
      have hB1 : Below w.heap.size w w1 := hb0.trans (hb1.mono hb0.size)
      have hK1 := hK'.below hb1 hK'.lt
      have hZ1 := hZ'.below hb1 hZ'.lt
      clear hK' hZ' k0 k1 k2 k3 k4 k5 hb1 hb0
      have kl1 := hK1.lt
      have zl1 := hZ1.lt
      go_wp2_with fail
      go_loopw [11, 12] (fun v i wr => ∃ k : Nat, k ≤ to_.length ∧ i = .int .i64 k ∧ Kd.R kAAddress 49 wr w1.heap.size (fun _ => True) v (to_.take k) ∧ Below w1.heap.size w1 wr) (fun _ i _ => to_.length - (intOf i).toNat)
      case atStart => exact ⟨0, Nat.zero_le _, rfl, Kd.R_nil _ _ _ _ _, Below.refl _ _⟩
      case round =>
        obtain ⟨k, hk, rfl, hR, hB⟩ := hrel
        have hBw : Below w.heap.size w wr := hB1.trans (hB.mono hB1.size)
        have hK4 := hK1.below hB kl1
        have hZ4 := hZ1.below hB zl1
        have hzz := hB.size
        have k3 := hK4.at 3 _ rfl
        have kl := hK4.lt
        obtain ⟨A5, c5, rfl⟩ := Kd.R_slice hR
        have hlk : (to_.take k).length = k := by rw [List.length_take]; omega
        rw [hlk] at hR ⊢
        replace hlk := Lib.hid hlk
        by_cases hlt : k < to_.length
        · obtain ⟨ad, e1, hx0, hxj⟩ := flat_at (Kd.C_below hr.out hBw) k hlt
          subst e1
          have q0 := hx0 _ rfl; have q1 := hxj 1 _ (by decide) rfl
          clear hx0 hxj
          have hts := Lib.hid (List.take_succ_eq_append_getElem hlt)
          generalize to_[k] = y at *
          have i0 : (0 : Int) ≤ (k : Int) := by omega
          have i1 : (k : Int) < (to_.length : Int) := by omega
          go_wp2_with (at_builtin; refine snoc_list rowAAddress w1.heap.size rfl _ _ rfl (.slice A5 k c5) (to_.take k) y [.string y.loc, .string y.dom] (by first | rfl | (simp [Act.eval]; done)) (by first | rfl | (simp [Act.eval]; done)) rfl hR (by omega) (by rw [hlk.out]; omega) ?_)
          intro v8 w8 hR8 hb8 hg8
          have hB8 : Below w1.heap.size w1 w8 := hB.trans hb8
          go_wp2_with fail
          go_roundw
          case rel => exact ⟨k + 1, hlt, by go_num, by rw [hts.out]; exact hR8, hB8⟩
          case measure => simp [intOf]; omega
        · obtain rfl : k = to_.length := by omega
          have i1 : ¬ (to_.length : Int) < (to_.length : Int) := by omega
          rw [List.take_length] at hR
          have g3 := hK4.free 3 _ rfl
          have hc5 := Lib.hid (Kd.R_reads' hR).2.1
          have hK5 := hK4.set 3 (.slice A5 to_.length c5) (by simp)
          have hZ5 := hZ4.other (c := w.heap.size) (j := 3) (by omega) (.slice A5 to_.length c5)
          have hR5 := R_elder hR (p := ⟨w.heap.size, 3, none⟩) (by show w.heap.size < _; omega) (.slice A5 to_.length c5)
          have hB5 : Below w.heap.size w (wr.setCell ⟨w.heap.size, 3, none⟩ (.slice A5 to_.length c5)) := Below.setCell hBw (Nat.le_refl _) _
          have k0 := hK4.at 0 _ rfl
          have k1 := hK4.at 1 _ rfl
          have k2 := hK4.at 2 _ rfl
          have k4 := hK4.at 4 _ rfl
          have k5 := hK4.at 5 _ rfl
          have nz1 : w1.heap.size ≤ (wr.setCell ⟨w.heap.size, 3, none⟩ (.slice A5 to_.length c5)).heap.size := by simp; omega
          obtain rfl := hlg.out
          skip
          skip
          have z0 := (hZ4).at 0 _ rfl
          have z1 := (hZ4).at 1 _ rfl
          have z2 := (hZ4).at 2 _ rfl
          have z3 := (hZ4).at 3 _ rfl
          have z4 := (hZ4).at 4 _ rfl
          have z5 := (hZ4).at 5 _ rfl
          have f0 := (hZ4).free 0 _ rfl
          have f1 := (hZ4).free 1 _ rfl
          have f2 := (hZ4).free 2 _ rfl
          have f3 := (hZ4).free 3 _ rfl
          have f4 := (hZ4).free 4 _ rfl
          have f5 := (hZ4).free 5 _ rfl
          have fl := (hZ4).lt
          have g4 := hK4.free 4 _ rfl
          have hB6 : Below w.heap.size w ((wr.setCell ⟨w.heap.size, 3, none⟩ (.slice A5 to_.length c5)).setCell ⟨w.heap.size, 4, none⟩ (.string (tx ++ (line.extract 1 line.size) ++ ⟨#[13, 10]⟩))) := Below.setCell hB5 (Nat.le_refl _) _
          have hR6 := R_elder hR5 (p := ⟨w.heap.size, 4, none⟩) (by show w.heap.size < _; omega) (.string (tx ++ (line.extract 1 line.size) ++ ⟨#[13, 10]⟩))
          go_wp2_with fail
          refine bodyPost_ret (v := .tuple #[.agg #[.int .i64 st, .string fr.loc, .string fr.dom, .slice A5 to_.length c5, .string (tx ++ (line.extract 1 line.size) ++ ⟨#[13, 10]⟩), .bool false], .int .i64 0, .slice none 0 0, .int .i64 0]) (by simp [results, Tryd.results31, go_sem, *]) rfl (postLine_ses rfl hc5.out (toX_of (elder_six hR6 (by omega)) (by omega)) (below_six hB6 (Nat.le_succ _)))
end Go.Proofs.YtijdghplfhfpaaaDoor.H

/- Lines: a letter's end, as the reference does it; a line, whole. -/
namespace Go.Proofs.YtijdghplfhfpaaaDoor.H
open Go.RowKit Go.Proofs.YtijdghplfhfpaaaDoorW.PrintWords Go.Proofs.YtijdghplfhfpaaaDoorW.PrintLast Go.Proofs.YtijdghplfhfpaaaDoor.U
set_option linter.unusedVariables false
set_option linter.unusedSimpArgs false
theorem cell_over {w w1 : World} {a : Addr} {v : Value} (hc : w.cell? a = some v) (h : Below w.heap.size w w1) : w1.cell? a = some v := pw_cell_below h hc
set_option maxHeartbeats 1000000 in
set_option maxRecDepth 100000 in
theorem lined_dot (A : Option Addr) (c : Nat) (A0 : Option Addr) (c0 : Nat) (kn : List ByteArray) (line : ByteArray) (w : World) (st : Int) (fr : AAddress) (to_ : List AAddress) (tx : ByteArray) (lg : Bool) (hr : Kd.C kAAddress w A to_.length to_) (hc : to_.length ≤ c) (ha : fr.loc.size ≤ 1048576) (hb : fr.dom.size ≤ 1048576) (hs : ∀ x ∈ to_, x.loc.size ≤ 1048576 ∧ x.dom.size ≤ 1048576) (hok : sessMay st fr to_ tx lg) (h4 : st = 4) (hd : line = ⟨#[46]⟩) : Calls Tryd.prog 31 #[.agg #[.int .i64 st, .string fr.loc, .string fr.dom, .slice A to_.length c, .string tx, .bool lg], .slice A0 kn.length c0, .string line] w (PostLine w (noSes 1, 0, to_.map fun a => ⟨fr, a, tx⟩, 0)) := by
  have HC := Lib.hid (fun w hr => refSession_calls st fr A c to_ tx lg w hr hc ha hb hs)
  rw [sess_yes hok] at HC
  have hlen := hok.2.2.1
  clear hok hs
  have i5 : (st == 5) = false := beq_eq_false_iff_ne.mpr (by omega)
  have i4 : (st != 4) = false := by rw [h4]; rfl
  subst hd
  clear h4
  replace hr := Lib.hid hr
  replace hc := Lib.hid hc
  skip
  have hK' : Blk ((w.alloc (.cells #[.int .i64 st, .string fr.loc, .string fr.dom, .slice A to_.length c, .string tx, .bool lg] 52)).alloc (.cells #[.int .i64 0, .string ⟨#[]⟩, .string ⟨#[]⟩, .slice none 0 0, .string ⟨#[]⟩, .bool false] 52)) w.heap.size [.int .i64 st, .string fr.loc, .string fr.dom, .slice A to_.length c, .string tx, .bool lg] := (Blk.made w _ _).alloc _
  have hZ' : Blk ((w.alloc (.cells #[.int .i64 st, .string fr.loc, .string fr.dom, .slice A to_.length c, .string tx, .bool lg] 52)).alloc (.cells #[.int .i64 0, .string ⟨#[]⟩, .string ⟨#[]⟩, .slice none 0 0, .string ⟨#[]⟩, .bool false] 52)) (w.heap.size + 1) [.int .i64 0, .string ⟨#[]⟩, .string ⟨#[]⟩, .slice none 0 0, .string ⟨#[]⟩, .bool false] := Blk.made_at _ _ _ (by simp)
  have hb0 : Below w.heap.size w ((w.alloc (.cells #[.int .i64 st, .string fr.loc, .string fr.dom, .slice A to_.length c, .string tx, .bool lg] 52)).alloc (.cells #[.int .i64 0, .string ⟨#[]⟩, .string ⟨#[]⟩, .slice none 0 0, .string ⟨#[]⟩, .bool false] 52)) := (by repeat (first | exact Below.refl _ _ | apply below_alloc | apply pw_below_drewN | apply below_drew1 | (refine Below.setCell ?_ (by first | (simp; done) | (simp; omega) | omega) _) ))
  have k0 := hK'.at 0 _ rfl
  have k1 := hK'.at 1 _ rfl
  have k2 := hK'.at 2 _ rfl
  have k3 := hK'.at 3 _ rfl
  have k4 := hK'.at 4 _ rfl
  have k5 := hK'.at 5 _ rfl
  go_enter Tryd.func31, Tryd.ntmps31
  go_wp2_with fail
  refine (HC.out _ (Kd.C_below hr.out hb0)).mono ?_
  rintro e w1 ⟨rfl, hb1⟩
  have hB1 : Below w.heap.size w w1 := hb0.trans (hb1.mono hb0.size)
  have hK1 := hK'.below hb1 hK'.lt
  have hZ1 := hZ'.below hb1 hZ'.lt
  clear hK' hZ' k0 k1 k2 k3 k4 k5 hb1 hb0
  have kl1 := hK1.lt
  have zl1 := hZ1.lt
  go_wp2_with fail
  go_loopw [11, 12] (fun v i wr => ∃ k : Nat, k ≤ to_.length ∧ i = .int .i64 k ∧ Kd.R kAAddress 49 wr w1.heap.size (fun _ => True) v (to_.take k) ∧ Below w1.heap.size w1 wr) (fun _ i _ => to_.length - (intOf i).toNat)
  case atStart => exact ⟨0, Nat.zero_le _, rfl, Kd.R_nil _ _ _ _ _, Below.refl _ _⟩
  case round =>
    obtain ⟨k, hk, rfl, hR, hB⟩ := hrel
    have hBw : Below w.heap.size w wr := hB1.trans (hB.mono hB1.size)
    have hK4 := hK1.below hB kl1
    have hZ4 := hZ1.below hB zl1
    have hzz := hB.size
    have k3 := hK4.at 3 _ rfl
    have kl := hK4.lt
    obtain ⟨A5, c5, rfl⟩ := Kd.R_slice hR
    have hlk : (to_.take k).length = k := by rw [List.length_take]; omega
    rw [hlk] at hR ⊢
    replace hlk := Lib.hid hlk
    by_cases hlt : k < to_.length
    · obtain ⟨ad, e1, hx0, hxj⟩ := flat_at (Kd.C_below hr.out hBw) k hlt
      subst e1
      have q0 := hx0 _ rfl; have q1 := hxj 1 _ (by decide) rfl
      clear hx0 hxj
      have hts := Lib.hid (List.take_succ_eq_append_getElem hlt)
      generalize to_[k] = y at *
      have i0 : (0 : Int) ≤ (k : Int) := by omega
      have i1 : (k : Int) < (to_.length : Int) := by omega
      go_wp2_with (at_builtin; refine snoc_list rowAAddress w1.heap.size rfl _ _ rfl (.slice A5 k c5) (to_.take k) y [.string y.loc, .string y.dom] (by first | rfl | (simp [Act.eval]; done)) (by first | rfl | (simp [Act.eval]; done)) rfl hR (by omega) (by rw [hlk.out]; omega) ?_)
      intro v8 w8 hR8 hb8 hg8
      have hB8 : Below w1.heap.size w1 w8 := hB.trans hb8
      go_wp2_with fail
      go_roundw
      case rel => exact ⟨k + 1, hlt, by go_num, by rw [hts.out]; exact hR8, hB8⟩
      case measure => simp [intOf]; omega
    · obtain rfl : k = to_.length := by omega
      have i1 : ¬ (to_.length : Int) < (to_.length : Int) := by omega
      rw [List.take_length] at hR
      have g3 := hK4.free 3 _ rfl
      have hc5 := Lib.hid (Kd.R_reads' hR).2.1
      have hK5 := hK4.set 3 (.slice A5 to_.length c5) (by simp)
      have hZ5 := hZ4.other (c := w.heap.size) (j := 3) (by omega) (.slice A5 to_.length c5)
      have hR5 := R_elder hR (p := ⟨w.heap.size, 3, none⟩) (by show w.heap.size < _; omega) (.slice A5 to_.length c5)
      have hB5 : Below w.heap.size w (wr.setCell ⟨w.heap.size, 3, none⟩ (.slice A5 to_.length c5)) := Below.setCell hBw (Nat.le_refl _) _
      have k0 := hK4.at 0 _ rfl
      have k1 := hK4.at 1 _ rfl
      have k2 := hK4.at 2 _ rfl
      have k4 := hK4.at 4 _ rfl
      have k5 := hK4.at 5 _ rfl
      have nz1 : w1.heap.size ≤ (wr.setCell ⟨w.heap.size, 3, none⟩ (.slice A5 to_.length c5)).heap.size := by simp; omega
      skip
      have hCT := (Kd.R_reads' hR5).2.2
      go_wp2_with fail
      clear k0 k1 k2 k3 k4 k5 kl hK4 hR hZ4 g3 hBw hB
      generalize wr.setCell ⟨w.heap.size, 3, none⟩ (.slice A5 to_.length c5) = V at *
      have hzV := hK5.lt
      have hzV2 := hZ5.lt
      go_loopw [15, 16] (fun v i wr2 => ∃ k : Nat, k ≤ to_.length ∧ i = .int .i64 k ∧ Kd.R kALetter 101 wr2 V.heap.size (fun _ => True) v ((to_.take k).map fun a => (⟨fr, a, tx⟩ : ALetter)) ∧ Below V.heap.size V wr2) (fun _ i _ => to_.length - (intOf i).toNat)
      case atStart => exact ⟨0, Nat.zero_le _, rfl, Kd.R_nil _ _ _ _ _, Below.refl _ _⟩
      case round =>
        obtain ⟨k, hk, rfl, hR, hB⟩ := hrel
        have hBw : Below w.heap.size w wr := hB5.trans (hB.mono hB5.size)
        have hK6 := hK5.below hB hzV
        have hZ6 := hZ5.below hB hzV2
        have hz2 := hB.size
        obtain ⟨A1, c1, rfl⟩ := Kd.R_slice hR
        have hlk' : ((to_.take k).map fun a => (⟨fr, a, tx⟩ : ALetter)).length = k := by rw [List.length_map, List.length_take]; omega
        rw [hlk'] at hR ⊢
        replace hlk' := Lib.hid hlk'
        have k1 := hK6.at 1 _ rfl
        have k2 := hK6.at 2 _ rfl
        have k3 := hK6.at 3 _ rfl
        have k4 := hK6.at 4 _ rfl
        have kl := hK6.lt
        by_cases hlt : k < to_.length
        · obtain ⟨ad, e1, hx0, hxj⟩ := flat_at hCT k hlt
          subst e1
          have p0 := hx0 _ rfl; have p1 := hxj 1 _ (by decide) rfl
          have q0 := cell_over p0 hB
          have q1 := cell_over p1 hB
          replace p0 := Lib.hid p0
          replace p1 := Lib.hid p1
          clear hx0 hxj
          have hts := Lib.hid (show (to_.take (k + 1)).map (fun a => (⟨fr, a, tx⟩ : ALetter)) = ((to_.take k).map fun a => (⟨fr, a, tx⟩ : ALetter)) ++ [⟨fr, to_[k], tx⟩] by rw [List.take_succ_eq_append_getElem hlt, List.map_append]; rfl)
          generalize to_[k] = y at *
          have i0 : (0 : Int) ≤ (k : Int) := by omega
          have i1 : (k : Int) < (to_.length : Int) := by omega
          go_wp2_with fail
          go_region_held3 (fun w' => w'.cell? ⟨w.heap.size, 1, none⟩ = some (.string fr.loc) ∧ w'.cell? ⟨w.heap.size, 2, none⟩ = some (.string fr.dom) ∧ w'.cell? ⟨w.heap.size, 3, none⟩ = some (.slice (some ad) to_.length c5) ∧ w'.cell? ⟨w.heap.size, 4, none⟩ = some (.string tx) ∧ w'.cell? (ad.add (k * 2)) = some (.string y.loc) ∧ w'.cell? ⟨(ad.add (k * 2)).block, (ad.add (k * 2)).off + 1, none⟩ = some (.string y.dom))
            (first | exact ⟨y1, y2, y3, y4, y5, y6⟩ | go_keep)
            ((refine snoc_step rowALetter V.heap.size (by rfl) (.tmp 65) (.tmp 76) (by rfl) (.slice A1 k c1) ((to_.take k).map fun a => (⟨fr, a, tx⟩ : ALetter)) ⟨fr, y, tx⟩ [.string fr.loc, .string fr.dom, .string y.loc, .string y.dom, .string tx] (by rfl) (by rfl) rfl (Kd.R_drew hR) (by first | (simp; done) | (simp; omega) | omega) (by rw [hlk'.out]; omega) ?_; intro v8 w8 hR8 hb8 hg8; have hB8d := (show Below V.heap.size V _ from below_drew1 hB).trans hb8; have hK8 := hK5.below hB8d hzV; have y1 := hK8.at 1 _ rfl; have y2 := hK8.at 2 _ rfl; have y3 := hK8.at 3 _ rfl; have y4 := hK8.at 4 _ rfl; have y5 := cell_over p0.out hB8d; have y6 := cell_over p1.out hB8d))
          go_wp2_with fail
          go_roundw
          case rel => exact ⟨k + 1, hlt, by go_num, by rw [hts.out]; exact hR8, hB8d⟩
          case measure => simp [intOf]; omega
        · obtain rfl : k = to_.length := by omega
          have i1 : ¬ (to_.length : Int) < (to_.length : Int) := by omega
          have z0 := (hZ6).at 0 _ rfl
          have z1 := (hZ6).at 1 _ rfl
          have z2 := (hZ6).at 2 _ rfl
          have z3 := (hZ6).at 3 _ rfl
          have z4 := (hZ6).at 4 _ rfl
          have z5 := (hZ6).at 5 _ rfl
          have f0 := (hZ6).free 0 _ rfl
          have f1 := (hZ6).free 1 _ rfl
          have f2 := (hZ6).free 2 _ rfl
          have f3 := (hZ6).free 3 _ rfl
          have f4 := (hZ6).free 4 _ rfl
          have f5 := (hZ6).free 5 _ rfl
          have fl := (hZ6).lt
          go_wp2_with fail
          rw [List.take_length] at hR
          refine bodyPost_ret (v := .tuple #[.agg #[.int .i64 1, .string ⟨#[]⟩, .string ⟨#[]⟩, .slice none 0 0, .string ⟨#[]⟩, .bool false], .int .i64 0, .slice A1 to_.length c1, .int .i64 0]) (by simp [results, Tryd.results31, go_sem, *]) rfl (postLine_letters (elder_sixL hR (by omega)) rfl (below_six hBw (Nat.le_succ _)) (by omega))
theorem lined_calls (s : Ses) (A : Option Addr) (c : Nat) (A0 : Option Addr) (c0 : Nat) (kn : List ByteArray) (line : ByteArray) (w : World) (hr : Kd.C kAAddress w A s.to_.length s.to_) (hc : s.to_.length ≤ c) (ha : s.fr.loc.size ≤ 1048576) (hb : s.fr.dom.size ≤ 1048576) (hs : ∀ x ∈ s.to_, x.loc.size ≤ 1048576 ∧ x.dom.size ≤ 1048576) (hl : line.size ≤ 1048576) (hkn : Kd.C Kd.string w A0 kn.length kn) :
    Calls Tryd.prog 31 #[SesV A c s, .slice A0 kn.length c0, .string line] w (PostLine w (lineV s kn line)) := by
  unfold lineV
  obtain ⟨st, fr, to_, tx, lg⟩ := s
  simp only at hr hc ha hb hs
  split
  · rename_i hok
    split
    · rename_i h5
      exact lined_over A c A0 c0 kn line w st fr to_ tx lg hr hc ha hb hs hok h5
    · rename_i h5
      split
      · rename_i h4
        split
        · rename_i hd
          exact lined_dot A c A0 c0 kn line w st fr to_ tx lg hr hc ha hb hs hok h4 hd
        · rename_i hd
          by_cases h0 : 0 < line.size
          · by_cases h46 : line[0].toNat = 46
            · exact lined_bodyD A c A0 c0 kn line w st fr to_ tx lg hr hc ha hb hs hl hok h4 hd h0 h46
            · exact lined_bodyN A c A0 c0 kn line w st fr to_ tx lg hr hc ha hb hs hl hok h4 hd h0 h46
          · exact lined_bodyE A c A0 c0 kn line w st fr to_ tx lg hr hc ha hb hs hl hok h4 hd h0
      · rename_i h4
        exact lined_cmd A c A0 c0 kn line w st fr to_ tx lg hr hc ha hb hs hkn hok h5 h4
  · rename_i hbad
    exact lined_bad A c A0 c0 kn line w st fr to_ tx lg hr hc ha hb hs hbad
end Go.Proofs.YtijdghplfhfpaaaDoor.H

/- Lines: the law's walk. -/
namespace Go.Proofs.YtijdghplfhfpaaaDoor.H
open Go.RowKit Go.Proofs.YtijdghplfhfpaaaDoorW.PrintWords Go.Proofs.YtijdghplfhfpaaaDoorW.PrintLast Go.Proofs.YtijdghplfhfpaaaDoor.U
set_option linter.unusedVariables false
set_option linter.unusedSimpArgs false
set_option maxHeartbeats 1000000 in
set_option maxRecDepth 100000 in
theorem lmtpLines_walk (st : Int) (fr : AAddress) (A : Option Addr) (c : Nat) (to_ : List AAddress) (tx : ByteArray) (lg : Bool) (A0 : Option Addr) (c0 : Nat) (kn : List ByteArray) (line : ByteArray) (m : Int) (w : World) (hr : Kd.C kAAddress w A to_.length to_) (hlc : to_.length ≤ c) (hl : to_.length ≤ 1048576)
    (ha : fr.loc.size ≤ 1048576) (hb : fr.dom.size ≤ 1048576) (hs : ∀ x ∈ to_, x.loc.size ≤ 1048576 ∧ x.dom.size ≤ 1048576) (hkn : Kd.C Kd.string w A0 kn.length kn) (hkl : kn.length ≤ 1048576) (hln : line.size ≤ 1048576)
    (hm : w.cell? ⟨6, 0, none⟩ = some (.int .i64 m)) (hg : 6 < w.heap.size) :
    Calls Tryd.prog 8 #[.agg #[.int .i64 st, .string fr.loc, .string fr.dom, .slice A to_.length c, .string tx, .bool lg], .slice A0 kn.length c0, .string line] w fun e w' => e = .returned (.bool true) ∧ Below w.heap.size w w' := by
  have H0 := Lib.hid (fun w hr => sessions_calls st fr.loc fr.dom A c to_ tx lg w hr (by omega))
  have HT := Lib.hid (fun w hr => texts_calls A0 c0 kn w hr (by omega))
  have H1 := fun A c A0 c0 w hr hc hkn hm hg => line_calls ⟨st, fr, to_, tx, lg⟩ A c A0 c0 kn line m w hr hc ha hb hs hln hkn hm hg
  have H2 := fun w hr hkn => lined_calls ⟨st, fr, to_, tx, lg⟩ A c A0 c0 kn line w hr hlc ha hb hs hln hkn
  generalize lineV ⟨st, fr, to_, tx, lg⟩ kn line = r at *
  obtain ⟨⟨st2, fr2, to2, tx2, lg2⟩, code, ls, er⟩ := r
  simp only [SesV] at H1 H2
  replace H1 := Lib.hid H1
  replace H2 := Lib.hid H2
  replace hr := Lib.hid hr
  replace hkn := Lib.hid hkn
  clear hs ha hb
  have hK' : Blk (w.alloc (.cells #[.int .i64 st, .string fr.loc, .string fr.dom, .slice A to_.length c, .string tx, .bool lg] 52)) w.heap.size [.int .i64 st, .string fr.loc, .string fr.dom, .slice A to_.length c, .string tx, .bool lg] := Blk.made w _ _
  have hb0 : Below w.heap.size w (w.alloc (.cells #[.int .i64 st, .string fr.loc, .string fr.dom, .slice A to_.length c, .string tx, .bool lg] 52)) := (by repeat (first | exact Below.refl _ _ | apply below_alloc | apply pw_below_drewN | apply below_drew1 | (refine Below.setCell ?_ (by first | (simp; done) | (simp; omega) | omega) _) ))
  go_enter Tryd.func8, Tryd.ntmps8
  go_wp2_with fail
  refine (H0.out _ (Kd.C_below hr.out hb0)).mono ?_
  rintro e w1 ⟨v1, rfl, hR1, hb1⟩
  obtain ⟨A1, c1, rfl, hc1, hC1⟩ := C_of hR1
  have hK1 := hK'.below hb1 hK'.lt
  have hB1 : Below w.heap.size w w1 := hb0.trans (hb1.mono hb0.size)
  clear hK' hb0 hb1 hR1
  go_wp2_with fail
  obtain ⟨n7, hn7⟩ : ∃ n7, n7 = w1.heap.size := ⟨_, rfl⟩
  obtain ⟨V2, hV2⟩ : ∃ V2 : World, V2 = (w1.alloc (.cells #[.int .i64 st, .string fr.loc, .string fr.dom, .slice A1 to_.length c1, .string tx, .bool lg] 52)).drew := ⟨_, rfl⟩
  have hC2 : Blk V2 n7 [.int .i64 st, .string fr.loc, .string fr.dom, .slice A1 to_.length c1, .string tx, .bool lg] := by rw [hV2, hn7]; exact (Blk.made w1 _ _).drew
  have hK2 : Blk V2 w.heap.size [.int .i64 st, .string fr.loc, .string fr.dom, .slice A to_.length c, .string tx, .bool lg] := by rw [hV2]; exact (hK1.alloc _).drew
  have hB2 : Below w.heap.size w V2 := by rw [hV2]; exact below_drew1 (hB1.alloc hB1.size _)
  have hD2 : Below w1.heap.size w1 V2 := by rw [hV2]; exact below_drew1 ((Below.refl _ _).alloc (Nat.le_refl _) _)
  refine wp_region_held_drew (S := fun w' => w'.cell? ⟨n7, 0, none⟩ = some (.int .i64 st) ∧ w'.cell? ⟨n7, 1, none⟩ = some (.string fr.loc) ∧ w'.cell? ⟨n7, 2, none⟩ = some (.string fr.dom) ∧ w'.cell? ⟨n7, 3, none⟩ = some (.slice A1 to_.length c1) ∧ w'.cell? ⟨n7, 4, none⟩ = some (.string tx) ∧ w'.cell? ⟨n7, 5, none⟩ = some (.bool lg)) (by kernel_rfl) ?_ (fun hHeld => ?_)
  · rw [← hV2]; exact ⟨(hC2).at 0 _ rfl, (hC2).at 1 _ rfl, (hC2).at 2 _ rfl, (hC2).at 3 _ rfl, (hC2).at 4 _ rfl, (hC2).at 5 _ rfl⟩
  rw [← hV2] at hHeld ⊢
  rw [← hn7]
  replace hV2 := Lib.hid hV2
  replace hn7 := Lib.hid hn7
  refine wpAnyH_take (i := 0) (oi := { dst := some 19, op := _, type := _, pos := _, after := _, guard := _ }) (v := .agg #[.int .i64 st, .string fr.loc, .string fr.dom, .slice A1 to_.length c1, .string tx, .bool lg]) rfl (by kernel_rfl) (by kernel_rfl) (by kernel_rfl) (fun _ _ _ h => h) (Or.inl ⟨by rfl, by (intro w hSw; (try dsimp only at hSw); first | (go_simp; done) | (go_simp; with_reducible rfl) | (go_simp; omega) | (go_simp; simp [*]; done))⟩) (by assumption) ?_; try simp only [Act.put, List.setIfInBounds_toArray, List.set_cons_zero, List.set_cons_succ]
  refine wpAnyH_take (i := 1) (oi := { dst := some 20, op := _, type := _, pos := _, after := _, guard := _ }) (v := .slice A0 kn.length c0) rfl (by kernel_rfl) (by kernel_rfl) (by kernel_rfl) (fun _ _ _ h => h) (Or.inl ⟨by rfl, by (intro w hSw; (try dsimp only at hSw); first | (go_simp; done) | (go_simp; with_reducible rfl) | (go_simp; omega) | (go_simp; simp [*]; done))⟩) (by assumption) ?_; try simp only [Act.put, List.setIfInBounds_toArray, List.set_cons_zero, List.set_cons_succ]
  refine wpAnyH_take (i := 3) (oi := { dst := some 22, op := _, type := _, pos := _, after := _, guard := _ }) (v := .string line) rfl (by kernel_rfl) (by kernel_rfl) (by kernel_rfl) (fun _ _ _ h => h) (Or.inl ⟨by rfl, by (intro w hSw; (try dsimp only at hSw); first | (go_simp; done) | (go_simp; with_reducible rfl) | (go_simp; omega) | (go_simp; simp [*]; done))⟩) (by assumption) ?_; try simp only [Act.put, List.setIfInBounds_toArray, List.set_cons_zero, List.set_cons_succ]
  refine wpAnyH_ready (rs := [2, 10]) (by kernel_rfl) (by simp) ?_
  refine AllReadyH.cons (o := { dst := some 21, op := _, type := _, pos := _, after := _, guard := _ }) rfl (fun K hK => ?_) (AllReadyH.cons (o := { dst := some 8, op := _, type := _, pos := _, after := _, guard := _ }) rfl (fun K hK => ?_) AllReadyH.nil)
  · skip
    go_simp
    go_at_call 30
    refine (HT.out _ (Kd.C_below hkn.out hB2)).mono ?_
    rintro e w3 ⟨v3, rfl, hR3, hb3⟩
    obtain ⟨A3, c3, rfl, hc3, hkn3⟩ := C_of hR3
    have hC3 := (hC2).below hb3 (hC2).lt
    have hK3 := (hK2).below hb3 (hK2).lt
    have hB3 : Below w.heap.size w w3 := (hB2).trans (hb3.mono (hB2).size)
    have hD3 := hD2.trans (hb3.mono hD2.size)
    (try simp only [Result.andThen])
    refine hK.out _ _ ⟨(hC3).at 0 _ rfl, (hC3).at 1 _ rfl, (hC3).at 2 _ rfl, (hC3).at 3 _ rfl, (hC3).at 4 _ rfl, (hC3).at 5 _ rfl⟩ (fun hHeld => ?_)
    clear hK K
    refine wpAnyH_ready (rs := [4, 10]) (by kernel_rfl) (by simp) ?_
    refine AllReadyH.cons (o := { dst := some 23, op := _, type := _, pos := _, after := _, guard := _ }) rfl (fun K hK => ?_) (AllReadyH.cons (o := { dst := some 8, op := _, type := _, pos := _, after := _, guard := _ }) rfl (fun K hK => ?_) AllReadyH.nil)
    · skip
      go_simp
      go_at_call 29
      refine (H1.out A1 c1 A3 c3 _ (Kd.C_below hC1 hD3) hc1 hkn3 (cell_below hB3 hm hg) (by have := (hB3).size; omega)).mono ?_
      rintro e w4 ⟨A2, c2, A4, c4, he, hc2, hT2, hL2, hb4⟩
      simp only [SesV] at he hc2 hT2 hL2
      subst he
      have hC4 := (hC3).below hb4 (hC3).lt
      have hK4 := (hK3).below hb4 (hK3).lt
      have hB4 : Below w.heap.size w w4 := (hB3).trans (hb4.mono (hB3).size)
      (try simp only [Result.andThen])
      have hD4 := hD3.trans (hb4.mono hD3.size)
      refine hK.out _ _ ⟨(hC4).at 0 _ rfl, (hC4).at 1 _ rfl, (hC4).at 2 _ rfl, (hC4).at 3 _ rfl, (hC4).at 4 _ rfl, (hC4).at 5 _ rfl⟩ (fun hHeld => ?_)
      clear hK K
      refine wpAnyH_take (i := 5) (oi := { dst := some 18, op := _, type := _, pos := _, after := _, guard := _ }) (v := .tuple #[.agg #[.int .i64 st2, .string fr2.loc, .string fr2.dom, .slice A2 to2.length c2, .string tx2, .bool lg2], .int .i64 code, .slice A4 ls.length c4, .int .i64 er]) rfl (by kernel_rfl) (by kernel_rfl) (by kernel_rfl) (fun _ _ _ h => h) (Or.inl ⟨by rfl, by (intro w hSw; (try dsimp only at hSw); first | (go_simp; done) | (go_simp; with_reducible rfl) | (go_simp; omega) | (go_simp; simp [*]; done))⟩) (by assumption) ?_; try simp only [Act.put, List.setIfInBounds_toArray, List.set_cons_zero, List.set_cons_succ]
      refine wpAnyH_take (i := 6) (oi := { dst := some 24, op := _, type := _, pos := _, after := _, guard := _ }) (v := .agg #[.int .i64 st2, .string fr2.loc, .string fr2.dom, .slice A2 to2.length c2, .string tx2, .bool lg2]) rfl (by kernel_rfl) (by kernel_rfl) (by kernel_rfl) (fun _ _ _ h => h) (Or.inl ⟨by rfl, by (intro w hSw; (try dsimp only at hSw); first | (go_simp; done) | (go_simp; with_reducible rfl) | (go_simp; omega) | (go_simp; simp [*]; done))⟩) (by assumption) ?_; try simp only [Act.put, List.setIfInBounds_toArray, List.set_cons_zero, List.set_cons_succ]
      refine wpAnyH_take (i := 7) (oi := { dst := some 25, op := _, type := _, pos := _, after := _, guard := _ }) (v := .int .i64 code) rfl (by kernel_rfl) (by kernel_rfl) (by kernel_rfl) (fun _ _ _ h => h) (Or.inl ⟨by rfl, by (intro w hSw; (try dsimp only at hSw); first | (go_simp; done) | (go_simp; with_reducible rfl) | (go_simp; omega) | (go_simp; simp [*]; done))⟩) (by assumption) ?_; try simp only [Act.put, List.setIfInBounds_toArray, List.set_cons_zero, List.set_cons_succ]
      refine wpAnyH_take (i := 8) (oi := { dst := some 26, op := _, type := _, pos := _, after := _, guard := _ }) (v := .slice A4 ls.length c4) rfl (by kernel_rfl) (by kernel_rfl) (by kernel_rfl) (fun _ _ _ h => h) (Or.inl ⟨by rfl, by (intro w hSw; (try dsimp only at hSw); first | (go_simp; done) | (go_simp; with_reducible rfl) | (go_simp; omega) | (go_simp; simp [*]; done))⟩) (by assumption) ?_; try simp only [Act.put, List.setIfInBounds_toArray, List.set_cons_zero, List.set_cons_succ]
      refine wpAnyH_take (i := 9) (oi := { dst := some 27, op := _, type := _, pos := _, after := _, guard := _ }) (v := .int .i64 er) rfl (by kernel_rfl) (by kernel_rfl) (by kernel_rfl) (fun _ _ _ h => h) (Or.inl ⟨by rfl, by (intro w hSw; (try dsimp only at hSw); first | (go_simp; done) | (go_simp; with_reducible rfl) | (go_simp; omega) | (go_simp; simp [*]; done))⟩) (by assumption) ?_; try simp only [Act.put, List.setIfInBounds_toArray, List.set_cons_zero, List.set_cons_succ]
      refine wpAnyH_ready (rs := [10]) (by kernel_rfl) (by simp) ?_
      refine AllReadyH.cons (o := { dst := some 8, op := _, type := _, pos := _, after := _, guard := _ }) rfl (fun K hK => ?_) AllReadyH.nil
      go_simp
      obtain ⟨W5, hW5⟩ : ∃ W5 : World, W5 = w4.alloc (.cells #[.int .i64 0, .string ⟨#[]⟩, .string ⟨#[]⟩, .slice none 0 0, .string ⟨#[]⟩, .bool false] 52) := ⟨_, rfl⟩
      have hP5 : Blk W5 w4.heap.size [.int .i64 0, .string ⟨#[]⟩, .string ⟨#[]⟩, .slice none 0 0, .string ⟨#[]⟩, .bool false] := by rw [hW5]; exact Blk.made w4 _ _
      have hC5 : Blk W5 n7 [.int .i64 st, .string fr.loc, .string fr.dom, .slice A1 to_.length c1, .string tx, .bool lg] := by rw [hW5]; exact hC4.alloc _
      have hK5 : Blk W5 w.heap.size [.int .i64 st, .string fr.loc, .string fr.dom, .slice A to_.length c, .string tx, .bool lg] := by rw [hW5]; exact hK4.alloc _
      have hA5 : Below w4.heap.size w4 W5 := by rw [hW5]; exact (Below.refl _ _).alloc (Nat.le_refl _) _
      have hB5 : Below w.heap.size w W5 := hB4.trans (hA5.mono hB4.size)
      have hlt7 : n7 < w4.heap.size := hC4.lt
      have hltN : w.heap.size < w4.heap.size := hK4.lt
      have hD4 : Below w1.heap.size w1 W5 := hD4.trans (hA5.mono hD4.size)
      have hz43 := hb4.size
      have hzw1 := hD3.size
      have hzw2 := hB1.size
      rw [← hW5]
      replace hW5 := Lib.hid hW5
      refine hK.out _ _ ⟨(hC5).at 0 _ rfl, (hC5).at 1 _ rfl, (hC5).at 2 _ rfl, (hC5).at 3 _ rfl, (hC5).at 4 _ rfl, (hC5).at 5 _ rfl⟩ (fun hHeld => ?_)
      clear hK K
      have z0 := (hP5).at 0 _ rfl
      have z1 := (hP5).at 1 _ rfl
      have z2 := (hP5).at 2 _ rfl
      have z3 := (hP5).at 3 _ rfl
      have z4 := (hP5).at 4 _ rfl
      have z5 := (hP5).at 5 _ rfl
      have f0 := (hP5).free 0 _ rfl
      have f1 := (hP5).free 1 _ rfl
      have f2 := (hP5).free 2 _ rfl
      have f3 := (hP5).free 3 _ rfl
      have f4 := (hP5).free 4 _ rfl
      have f5 := (hP5).free 5 _ rfl
      have fl := (hP5).lt
      refine wpAnyH_ready (rs := [11]) (by kernel_rfl) (by simp) ?_
      refine AllReadyH.cons (o := { dst := none, op := _, type := _, pos := _, after := _, guard := _ }) rfl (fun K hK => ?_) AllReadyH.nil
      go_simp
      obtain ⟨V, hV⟩ : ∃ V : World, V = ((((((W5).setCell ⟨w4.heap.size, 0, none⟩ (.int .i64 st2)).setCell ⟨w4.heap.size, 1, none⟩ (.string fr2.loc)).setCell ⟨w4.heap.size, 2, none⟩ (.string fr2.dom)).setCell ⟨w4.heap.size, 3, none⟩ (.slice A2 to2.length c2)).setCell ⟨w4.heap.size, 4, none⟩ (.string tx2)).setCell ⟨w4.heap.size, 5, none⟩ (.bool lg2) := ⟨_, rfl⟩
      have hPV : Blk V w4.heap.size [.int .i64 st2, .string fr2.loc, .string fr2.dom, .slice A2 to2.length c2, .string tx2, .bool lg2] := by rw [hV]; exact ((((((hP5).set 0 (.int .i64 st2) (by simp)).set 1 (.string fr2.loc) (by simp)).set 2 (.string fr2.dom) (by simp)).set 3 (.slice A2 to2.length c2) (by simp)).set 4 (.string tx2) (by simp)).set 5 (.bool lg2) (by simp)
      have hCV : Blk V n7 [.int .i64 st, .string fr.loc, .string fr.dom, .slice A1 to_.length c1, .string tx, .bool lg] := by rw [hV]; exact ((((((hC5).other (by omega) _).other (by omega) _).other (by omega) _).other (by omega) _).other (by omega) _).other (by omega) _
      have hKV : Blk V w.heap.size [.int .i64 st, .string fr.loc, .string fr.dom, .slice A to_.length c, .string tx, .bool lg] := by rw [hV]; exact ((((((hK5).other (by omega) _).other (by omega) _).other (by omega) _).other (by omega) _).other (by omega) _).other (by omega) _
      have hBV : Below w.heap.size w V := by rw [hV]; exact below_six hB5 (by omega)
      have hTV : Kd.C kAAddress V A2 to2.length to2 := by rw [hV]; exact (Kd.C_below hT2.now (below_six hA5 (Nat.le_refl _)))
      have hLV : Kd.C kALetter V A4 ls.length ls := by rw [hV]; exact (Kd.C_below hL2.now (below_six hA5 (Nat.le_refl _)))
      have hDV : Below w1.heap.size w1 V := by rw [hV]; exact below_six hD4 (by omega)
      rw [← hV]
      replace hV := Lib.hid hV
      refine hK.out _ _ ⟨(hCV).at 0 _ rfl, (hCV).at 1 _ rfl, (hCV).at 2 _ rfl, (hCV).at 3 _ rfl, (hCV).at 4 _ rfl, (hCV).at 5 _ rfl⟩ (fun hHeld => ?_)
      clear hK K z0 z1 z2 z3 z4 z5 f0 f1 f2 f3 f4 f5 fl
      refine wpAnyH_take (i := 12) (oi := { dst := some 9, op := _, type := _, pos := _, after := _, guard := _ }) (v := .int .i64 code) rfl (by kernel_rfl) (by kernel_rfl) (by kernel_rfl) (fun _ _ _ h => h) (Or.inl ⟨by rfl, by (intro w hSw; (try dsimp only at hSw); first | (go_simp; done) | (go_simp; with_reducible rfl) | (go_simp; omega) | (go_simp; simp [*]; done))⟩) (by assumption) ?_; try simp only [Act.put, List.setIfInBounds_toArray, List.set_cons_zero, List.set_cons_succ]
      refine wpAnyH_take (i := 13) (oi := { dst := some 10, op := _, type := _, pos := _, after := _, guard := _ }) (v := .slice A4 ls.length c4) rfl (by kernel_rfl) (by kernel_rfl) (by kernel_rfl) (fun _ _ _ h => h) (Or.inl ⟨by rfl, by (intro w hSw; (try dsimp only at hSw); first | (go_simp; done) | (go_simp; with_reducible rfl) | (go_simp; omega) | (go_simp; simp [*]; done))⟩) (by assumption) ?_; try simp only [Act.put, List.setIfInBounds_toArray, List.set_cons_zero, List.set_cons_succ]
      refine wpAnyH_take (i := 14) (oi := { dst := some 11, op := _, type := _, pos := _, after := _, guard := _ }) (v := .int .i64 er) rfl (by kernel_rfl) (by kernel_rfl) (by kernel_rfl) (fun _ _ _ h => h) (Or.inl ⟨by rfl, by (intro w hSw; (try dsimp only at hSw); first | (go_simp; done) | (go_simp; with_reducible rfl) | (go_simp; omega) | (go_simp; simp [*]; done))⟩) (by assumption) ?_; try simp only [Act.put, List.setIfInBounds_toArray, List.set_cons_zero, List.set_cons_succ]
      refine wpAnyH_done (by kernel_rfl) ?_ _
      skip
      have k0 := hKV.at 0 _ rfl
      have k1 := hKV.at 1 _ rfl
      have k2 := hKV.at 2 _ rfl
      have k3 := hKV.at 3 _ rfl
      have k4 := hKV.at 4 _ rfl
      have k5 := hKV.at 5 _ rfl
      have kl := hKV.lt
      go_wp2_with fail
      refine (H2.out V (Kd.C_below hr.out hBV) (Kd.C_below hkn.out hBV)).mono ?_
      rintro e w6 ⟨A6, c6, A7, c7, he, hc6, hT6, hL6, hb6⟩
      simp only [SesV] at he hc6 hT6 hL6
      subst he
      obtain ⟨W6, hW6⟩ : ∃ W6 : World, W6 = w6.alloc (.cells #[.int .i64 st2, .string fr2.loc, .string fr2.dom, .slice A6 to2.length c6, .string tx2, .bool lg2] 52) := ⟨_, rfl⟩
      have hA6 : Below w6.heap.size w6 W6 := by rw [hW6]; exact (Below.refl _ _).alloc (Nat.le_refl _) _
      have hV6 : Below V.heap.size V W6 := hb6.trans (hA6.mono hb6.size)
      have hB6 : Below w.heap.size w W6 := hBV.trans (hV6.mono hBV.size)
      have S1 := Lib.hid (sameSession_calls ⟨st2, fr2, to2, tx2, lg2⟩ A2 c2 A6 c6 W6 (Kd.C_below hTV hV6) (Kd.C_below hT6.now hA6))
      have S2 := Lib.hid (fun X (h : Below W6.heap.size W6 X) => sameLetters_calls A4 c4 A7 c7 ls X (Kd.C_below (Kd.C_below hLV hV6) h) (Kd.C_below (Kd.C_below hL6.now hA6) h))
      have S3 := Lib.hid (fun X (h : Below W6.heap.size W6 X) => sameSession_calls ⟨st, fr, to_, tx, lg⟩ A1 c1 A c X (Kd.C_below (Kd.C_below (Kd.C_below hC1 hDV) hV6) h) (Kd.C_below hr.out (hB6.trans (h.mono hB6.size))))
      simp only [SesV] at S1 S3
      have hO : Blk W6 w6.heap.size [.int .i64 st2, .string fr2.loc, .string fr2.dom, .slice A6 to2.length c6, .string tx2, .bool lg2] := by rw [hW6]; exact Blk.made w6 _ _
      have hP6 := hPV.below hV6 hPV.lt
      have hC6 := hCV.below hV6 hCV.lt
      have hK6 := hKV.below hV6 hKV.lt
      clear k0 k1 k2 k3 k4 k5 kl hTV hLV hT6 hL6 hPV hCV hKV
      have k0 := hK6.at 0 _ rfl
      have k1 := hK6.at 1 _ rfl
      have k2 := hK6.at 2 _ rfl
      have k3 := hK6.at 3 _ rfl
      have k4 := hK6.at 4 _ rfl
      have k5 := hK6.at 5 _ rfl
      have o0 := hO.at 0 _ rfl
      have o1 := hO.at 1 _ rfl
      have o2 := hO.at 2 _ rfl
      have o3 := hO.at 3 _ rfl
      have o4 := hO.at 4 _ rfl
      have o5 := hO.at 5 _ rfl
      have p0 := hP6.at 0 _ rfl
      have p1 := hP6.at 1 _ rfl
      have p2 := hP6.at 2 _ rfl
      have p3 := hP6.at 3 _ rfl
      have p4 := hP6.at 4 _ rfl
      have p5 := hP6.at 5 _ rfl
      rw [hW6] at o0 o1 o2 o3 o4 o5 p0 p1 p2 p3 p4 p5
      go_wp2_with fail
      rw [← hW6]
      clear o0 o1 o2 o3 o4 o5 p0 p1 p2 p3 p4 p5 k0 k1 k2 k3 k4 k5
      replace hW6 := Lib.hid hW6
      refine S1.out.mono ?_
      rintro e w7 ⟨rfl, hb7⟩
      go_wp2_with fail
      refine (S2.out _ hb7).mono ?_
      rintro e w8 ⟨rfl, hb8⟩
      have hb68 : Below W6.heap.size W6 w8 := hb7.trans (hb8.mono hb7.size)
      have hC8 := hC6.below hb68 hC6.lt
      have hK8 := hK6.below hb68 hK6.lt
      have k0 := hK8.at 0 _ rfl
      have k1 := hK8.at 1 _ rfl
      have k2 := hK8.at 2 _ rfl
      have k3 := hK8.at 3 _ rfl
      have k4 := hK8.at 4 _ rfl
      have k5 := hK8.at 5 _ rfl
      have o0 := hC8.at 0 _ rfl
      have o1 := hC8.at 1 _ rfl
      have o2 := hC8.at 2 _ rfl
      have o3 := hC8.at 3 _ rfl
      have o4 := hC8.at 4 _ rfl
      have o5 := hC8.at 5 _ rfl
      go_wp2_with fail
      refine (S3.out _ hb68).mono ?_
      rintro e w9 ⟨rfl, hb9⟩
      have hB9 : Below w.heap.size w w9 := hB6.trans ((hb68.trans (hb9.mono hb68.size)).mono hB6.size)
      go_wp2_with fail
      go_ret
      exact ⟨(by first | rfl | (simp; done) | (simp [*]; done) | (rw [if_pos (by omega)]; first | rfl | (simp; done)) | (rw [if_neg (by omega)]; first | rfl | (simp; done)) | (simp; omega)), hB9⟩
    · go_simp
      obtain ⟨W4, hW4⟩ : ∃ W4 : World, W4 = w3.alloc (.cells #[.int .i64 0, .string ⟨#[]⟩, .string ⟨#[]⟩, .slice none 0 0, .string ⟨#[]⟩, .bool false] 52) := ⟨_, rfl⟩
      have hP4 : Blk W4 w3.heap.size [.int .i64 0, .string ⟨#[]⟩, .string ⟨#[]⟩, .slice none 0 0, .string ⟨#[]⟩, .bool false] := by rw [hW4]; exact Blk.made w3 _ _
      have hC34 : Blk W4 n7 [.int .i64 st, .string fr.loc, .string fr.dom, .slice A1 to_.length c1, .string tx, .bool lg] := by rw [hW4]; exact hC3.alloc _
      have hK34 : Blk W4 w.heap.size [.int .i64 st, .string fr.loc, .string fr.dom, .slice A to_.length c, .string tx, .bool lg] := by rw [hW4]; exact hK3.alloc _
      have hA4 : Below w3.heap.size w3 W4 := by rw [hW4]; exact (Below.refl _ _).alloc (Nat.le_refl _) _
      have hB34 : Below w.heap.size w W4 := hB3.trans (hA4.mono hB3.size)
      have hD34 : Below w1.heap.size w1 W4 := hD3.trans (hA4.mono hD3.size)
      have hlt7 : n7 < w3.heap.size := hC3.lt
      have hltN : w.heap.size < w3.heap.size := hK3.lt
      have hltp : w3.heap.size < W4.heap.size := hP4.lt
      have hzw1 := hD3.size
      have hzw2 := hB1.size
      rw [← hW4]
      replace hW4 := Lib.hid hW4
      refine hK.out _ _ ⟨(hC34).at 0 _ rfl, (hC34).at 1 _ rfl, (hC34).at 2 _ rfl, (hC34).at 3 _ rfl, (hC34).at 4 _ rfl, (hC34).at 5 _ rfl⟩ (fun hHeld => ?_)
      clear hK K
      refine wpAnyH_ready (rs := [4]) (by kernel_rfl) (by simp) ?_
      refine AllReadyH.cons (o := { dst := some 23, op := _, type := _, pos := _, after := _, guard := _ }) rfl (fun K hK => ?_) AllReadyH.nil
      skip
      go_simp
      go_at_call 29
      refine (H1.out A1 c1 A3 c3 _ (Kd.C_below hC1 hD34) hc1 (Kd.C_below hkn3 hA4) (cell_below hB34 hm hg) (by have := (hB34).size; omega)).mono ?_
      rintro e w4 ⟨A2, c2, A4, c4, he, hc2, hT2, hL2, hb4⟩
      simp only [SesV] at he hc2 hT2 hL2
      subst he
      have hC4 := (hC34).below hb4 (hC34).lt
      have hK4 := (hK34).below hb4 (hK34).lt
      have hB4 : Below w.heap.size w w4 := (hB34).trans (hb4.mono (hB34).size)
      (try simp only [Result.andThen])
      have hP5 := hP4.below hb4 hP4.lt
      have hD4 := hD34.trans (hb4.mono hD34.size)
      refine hK.out _ _ ⟨(hC4).at 0 _ rfl, (hC4).at 1 _ rfl, (hC4).at 2 _ rfl, (hC4).at 3 _ rfl, (hC4).at 4 _ rfl, (hC4).at 5 _ rfl⟩ (fun hHeld => ?_)
      clear hK K
      refine wpAnyH_take (i := 5) (oi := { dst := some 18, op := _, type := _, pos := _, after := _, guard := _ }) (v := .tuple #[.agg #[.int .i64 st2, .string fr2.loc, .string fr2.dom, .slice A2 to2.length c2, .string tx2, .bool lg2], .int .i64 code, .slice A4 ls.length c4, .int .i64 er]) rfl (by kernel_rfl) (by kernel_rfl) (by kernel_rfl) (fun _ _ _ h => h) (Or.inl ⟨by rfl, by (intro w hSw; (try dsimp only at hSw); first | (go_simp; done) | (go_simp; with_reducible rfl) | (go_simp; omega) | (go_simp; simp [*]; done))⟩) (by assumption) ?_; try simp only [Act.put, List.setIfInBounds_toArray, List.set_cons_zero, List.set_cons_succ]
      refine wpAnyH_take (i := 6) (oi := { dst := some 24, op := _, type := _, pos := _, after := _, guard := _ }) (v := .agg #[.int .i64 st2, .string fr2.loc, .string fr2.dom, .slice A2 to2.length c2, .string tx2, .bool lg2]) rfl (by kernel_rfl) (by kernel_rfl) (by kernel_rfl) (fun _ _ _ h => h) (Or.inl ⟨by rfl, by (intro w hSw; (try dsimp only at hSw); first | (go_simp; done) | (go_simp; with_reducible rfl) | (go_simp; omega) | (go_simp; simp [*]; done))⟩) (by assumption) ?_; try simp only [Act.put, List.setIfInBounds_toArray, List.set_cons_zero, List.set_cons_succ]
      refine wpAnyH_take (i := 7) (oi := { dst := some 25, op := _, type := _, pos := _, after := _, guard := _ }) (v := .int .i64 code) rfl (by kernel_rfl) (by kernel_rfl) (by kernel_rfl) (fun _ _ _ h => h) (Or.inl ⟨by rfl, by (intro w hSw; (try dsimp only at hSw); first | (go_simp; done) | (go_simp; with_reducible rfl) | (go_simp; omega) | (go_simp; simp [*]; done))⟩) (by assumption) ?_; try simp only [Act.put, List.setIfInBounds_toArray, List.set_cons_zero, List.set_cons_succ]
      refine wpAnyH_take (i := 8) (oi := { dst := some 26, op := _, type := _, pos := _, after := _, guard := _ }) (v := .slice A4 ls.length c4) rfl (by kernel_rfl) (by kernel_rfl) (by kernel_rfl) (fun _ _ _ h => h) (Or.inl ⟨by rfl, by (intro w hSw; (try dsimp only at hSw); first | (go_simp; done) | (go_simp; with_reducible rfl) | (go_simp; omega) | (go_simp; simp [*]; done))⟩) (by assumption) ?_; try simp only [Act.put, List.setIfInBounds_toArray, List.set_cons_zero, List.set_cons_succ]
      refine wpAnyH_take (i := 9) (oi := { dst := some 27, op := _, type := _, pos := _, after := _, guard := _ }) (v := .int .i64 er) rfl (by kernel_rfl) (by kernel_rfl) (by kernel_rfl) (fun _ _ _ h => h) (Or.inl ⟨by rfl, by (intro w hSw; (try dsimp only at hSw); first | (go_simp; done) | (go_simp; with_reducible rfl) | (go_simp; omega) | (go_simp; simp [*]; done))⟩) (by assumption) ?_; try simp only [Act.put, List.setIfInBounds_toArray, List.set_cons_zero, List.set_cons_succ]
      have z0 := (hP5).at 0 _ rfl
      have z1 := (hP5).at 1 _ rfl
      have z2 := (hP5).at 2 _ rfl
      have z3 := (hP5).at 3 _ rfl
      have z4 := (hP5).at 4 _ rfl
      have z5 := (hP5).at 5 _ rfl
      have f0 := (hP5).free 0 _ rfl
      have f1 := (hP5).free 1 _ rfl
      have f2 := (hP5).free 2 _ rfl
      have f3 := (hP5).free 3 _ rfl
      have f4 := (hP5).free 4 _ rfl
      have f5 := (hP5).free 5 _ rfl
      have fl := (hP5).lt
      refine wpAnyH_ready (rs := [11]) (by kernel_rfl) (by simp) ?_
      refine AllReadyH.cons (o := { dst := none, op := _, type := _, pos := _, after := _, guard := _ }) rfl (fun K hK => ?_) AllReadyH.nil
      go_simp
      obtain ⟨V, hV⟩ : ∃ V : World, V = ((((((w4).setCell ⟨w3.heap.size, 0, none⟩ (.int .i64 st2)).setCell ⟨w3.heap.size, 1, none⟩ (.string fr2.loc)).setCell ⟨w3.heap.size, 2, none⟩ (.string fr2.dom)).setCell ⟨w3.heap.size, 3, none⟩ (.slice A2 to2.length c2)).setCell ⟨w3.heap.size, 4, none⟩ (.string tx2)).setCell ⟨w3.heap.size, 5, none⟩ (.bool lg2) := ⟨_, rfl⟩
      have hPV : Blk V w3.heap.size [.int .i64 st2, .string fr2.loc, .string fr2.dom, .slice A2 to2.length c2, .string tx2, .bool lg2] := by rw [hV]; exact ((((((hP5).set 0 (.int .i64 st2) (by simp)).set 1 (.string fr2.loc) (by simp)).set 2 (.string fr2.dom) (by simp)).set 3 (.slice A2 to2.length c2) (by simp)).set 4 (.string tx2) (by simp)).set 5 (.bool lg2) (by simp)
      have hCV : Blk V n7 [.int .i64 st, .string fr.loc, .string fr.dom, .slice A1 to_.length c1, .string tx, .bool lg] := by rw [hV]; exact ((((((hC4).other (by omega) _).other (by omega) _).other (by omega) _).other (by omega) _).other (by omega) _).other (by omega) _
      have hKV : Blk V w.heap.size [.int .i64 st, .string fr.loc, .string fr.dom, .slice A to_.length c, .string tx, .bool lg] := by rw [hV]; exact ((((((hK4).other (by omega) _).other (by omega) _).other (by omega) _).other (by omega) _).other (by omega) _).other (by omega) _
      have hBV : Below w.heap.size w V := by rw [hV]; exact below_six hB4 (by omega)
      have hTV : Kd.C kAAddress V A2 to2.length to2 := by rw [hV]; exact (toX_six hT2 (by omega)).now
      have hLV : Kd.C kALetter V A4 ls.length ls := by rw [hV]; exact (toX_six hL2 (by omega)).now
      have hDV : Below w1.heap.size w1 V := by rw [hV]; exact below_six hD4 (by omega)
      rw [← hV]
      replace hV := Lib.hid hV
      refine hK.out _ _ ⟨(hCV).at 0 _ rfl, (hCV).at 1 _ rfl, (hCV).at 2 _ rfl, (hCV).at 3 _ rfl, (hCV).at 4 _ rfl, (hCV).at 5 _ rfl⟩ (fun hHeld => ?_)
      clear hK K z0 z1 z2 z3 z4 z5 f0 f1 f2 f3 f4 f5 fl
      refine wpAnyH_take (i := 12) (oi := { dst := some 9, op := _, type := _, pos := _, after := _, guard := _ }) (v := .int .i64 code) rfl (by kernel_rfl) (by kernel_rfl) (by kernel_rfl) (fun _ _ _ h => h) (Or.inl ⟨by rfl, by (intro w hSw; (try dsimp only at hSw); first | (go_simp; done) | (go_simp; with_reducible rfl) | (go_simp; omega) | (go_simp; simp [*]; done))⟩) (by assumption) ?_; try simp only [Act.put, List.setIfInBounds_toArray, List.set_cons_zero, List.set_cons_succ]
      refine wpAnyH_take (i := 13) (oi := { dst := some 10, op := _, type := _, pos := _, after := _, guard := _ }) (v := .slice A4 ls.length c4) rfl (by kernel_rfl) (by kernel_rfl) (by kernel_rfl) (fun _ _ _ h => h) (Or.inl ⟨by rfl, by (intro w hSw; (try dsimp only at hSw); first | (go_simp; done) | (go_simp; with_reducible rfl) | (go_simp; omega) | (go_simp; simp [*]; done))⟩) (by assumption) ?_; try simp only [Act.put, List.setIfInBounds_toArray, List.set_cons_zero, List.set_cons_succ]
      refine wpAnyH_take (i := 14) (oi := { dst := some 11, op := _, type := _, pos := _, after := _, guard := _ }) (v := .int .i64 er) rfl (by kernel_rfl) (by kernel_rfl) (by kernel_rfl) (fun _ _ _ h => h) (Or.inl ⟨by rfl, by (intro w hSw; (try dsimp only at hSw); first | (go_simp; done) | (go_simp; with_reducible rfl) | (go_simp; omega) | (go_simp; simp [*]; done))⟩) (by assumption) ?_; try simp only [Act.put, List.setIfInBounds_toArray, List.set_cons_zero, List.set_cons_succ]
      refine wpAnyH_done (by kernel_rfl) ?_ _
      skip
      have k0 := hKV.at 0 _ rfl
      have k1 := hKV.at 1 _ rfl
      have k2 := hKV.at 2 _ rfl
      have k3 := hKV.at 3 _ rfl
      have k4 := hKV.at 4 _ rfl
      have k5 := hKV.at 5 _ rfl
      have kl := hKV.lt
      go_wp2_with fail
      refine (H2.out V (Kd.C_below hr.out hBV) (Kd.C_below hkn.out hBV)).mono ?_
      rintro e w6 ⟨A6, c6, A7, c7, he, hc6, hT6, hL6, hb6⟩
      simp only [SesV] at he hc6 hT6 hL6
      subst he
      obtain ⟨W6, hW6⟩ : ∃ W6 : World, W6 = w6.alloc (.cells #[.int .i64 st2, .string fr2.loc, .string fr2.dom, .slice A6 to2.length c6, .string tx2, .bool lg2] 52) := ⟨_, rfl⟩
      have hA6 : Below w6.heap.size w6 W6 := by rw [hW6]; exact (Below.refl _ _).alloc (Nat.le_refl _) _
      have hV6 : Below V.heap.size V W6 := hb6.trans (hA6.mono hb6.size)
      have hB6 : Below w.heap.size w W6 := hBV.trans (hV6.mono hBV.size)
      have S1 := Lib.hid (sameSession_calls ⟨st2, fr2, to2, tx2, lg2⟩ A2 c2 A6 c6 W6 (Kd.C_below hTV hV6) (Kd.C_below hT6.now hA6))
      have S2 := Lib.hid (fun X (h : Below W6.heap.size W6 X) => sameLetters_calls A4 c4 A7 c7 ls X (Kd.C_below (Kd.C_below hLV hV6) h) (Kd.C_below (Kd.C_below hL6.now hA6) h))
      have S3 := Lib.hid (fun X (h : Below W6.heap.size W6 X) => sameSession_calls ⟨st, fr, to_, tx, lg⟩ A1 c1 A c X (Kd.C_below (Kd.C_below (Kd.C_below hC1 hDV) hV6) h) (Kd.C_below hr.out (hB6.trans (h.mono hB6.size))))
      simp only [SesV] at S1 S3
      have hO : Blk W6 w6.heap.size [.int .i64 st2, .string fr2.loc, .string fr2.dom, .slice A6 to2.length c6, .string tx2, .bool lg2] := by rw [hW6]; exact Blk.made w6 _ _
      have hP6 := hPV.below hV6 hPV.lt
      have hC6 := hCV.below hV6 hCV.lt
      have hK6 := hKV.below hV6 hKV.lt
      clear k0 k1 k2 k3 k4 k5 kl hTV hLV hT6 hL6 hPV hCV hKV
      have k0 := hK6.at 0 _ rfl
      have k1 := hK6.at 1 _ rfl
      have k2 := hK6.at 2 _ rfl
      have k3 := hK6.at 3 _ rfl
      have k4 := hK6.at 4 _ rfl
      have k5 := hK6.at 5 _ rfl
      have o0 := hO.at 0 _ rfl
      have o1 := hO.at 1 _ rfl
      have o2 := hO.at 2 _ rfl
      have o3 := hO.at 3 _ rfl
      have o4 := hO.at 4 _ rfl
      have o5 := hO.at 5 _ rfl
      have p0 := hP6.at 0 _ rfl
      have p1 := hP6.at 1 _ rfl
      have p2 := hP6.at 2 _ rfl
      have p3 := hP6.at 3 _ rfl
      have p4 := hP6.at 4 _ rfl
      have p5 := hP6.at 5 _ rfl
      rw [hW6] at o0 o1 o2 o3 o4 o5 p0 p1 p2 p3 p4 p5
      go_wp2_with fail
      rw [← hW6]
      clear o0 o1 o2 o3 o4 o5 p0 p1 p2 p3 p4 p5 k0 k1 k2 k3 k4 k5
      replace hW6 := Lib.hid hW6
      refine S1.out.mono ?_
      rintro e w7 ⟨rfl, hb7⟩
      go_wp2_with fail
      refine (S2.out _ hb7).mono ?_
      rintro e w8 ⟨rfl, hb8⟩
      have hb68 : Below W6.heap.size W6 w8 := hb7.trans (hb8.mono hb7.size)
      have hC8 := hC6.below hb68 hC6.lt
      have hK8 := hK6.below hb68 hK6.lt
      have k0 := hK8.at 0 _ rfl
      have k1 := hK8.at 1 _ rfl
      have k2 := hK8.at 2 _ rfl
      have k3 := hK8.at 3 _ rfl
      have k4 := hK8.at 4 _ rfl
      have k5 := hK8.at 5 _ rfl
      have o0 := hC8.at 0 _ rfl
      have o1 := hC8.at 1 _ rfl
      have o2 := hC8.at 2 _ rfl
      have o3 := hC8.at 3 _ rfl
      have o4 := hC8.at 4 _ rfl
      have o5 := hC8.at 5 _ rfl
      go_wp2_with fail
      refine (S3.out _ hb68).mono ?_
      rintro e w9 ⟨rfl, hb9⟩
      have hB9 : Below w.heap.size w w9 := hB6.trans ((hb68.trans (hb9.mono hb68.size)).mono hB6.size)
      go_wp2_with fail
      go_ret
      exact ⟨(by first | rfl | (simp; done) | (simp [*]; done) | (rw [if_pos (by omega)]; first | rfl | (simp; done)) | (rw [if_neg (by omega)]; first | rfl | (simp; done)) | (simp; omega)), hB9⟩
  · go_simp
    obtain ⟨W3, hW3⟩ : ∃ W3 : World, W3 = V2.alloc (.cells #[.int .i64 0, .string ⟨#[]⟩, .string ⟨#[]⟩, .slice none 0 0, .string ⟨#[]⟩, .bool false] 52) := ⟨_, rfl⟩
    have hP2 : Blk W3 V2.heap.size [.int .i64 0, .string ⟨#[]⟩, .string ⟨#[]⟩, .slice none 0 0, .string ⟨#[]⟩, .bool false] := by rw [hW3]; exact Blk.made V2 _ _
    have hC23 : Blk W3 n7 [.int .i64 st, .string fr.loc, .string fr.dom, .slice A1 to_.length c1, .string tx, .bool lg] := by rw [hW3]; exact hC2.alloc _
    have hK23 : Blk W3 w.heap.size [.int .i64 st, .string fr.loc, .string fr.dom, .slice A to_.length c, .string tx, .bool lg] := by rw [hW3]; exact hK2.alloc _
    have hA3 : Below V2.heap.size V2 W3 := by rw [hW3]; exact (Below.refl _ _).alloc (Nat.le_refl _) _
    have hB23 : Below w.heap.size w W3 := hB2.trans (hA3.mono hB2.size)
    have hD2' : Below w1.heap.size w1 W3 := hD2.trans (hA3.mono hD2.size)
    have hlt7 : n7 < V2.heap.size := hC2.lt
    have hltN : w.heap.size < V2.heap.size := hK2.lt
    have hltp : V2.heap.size < W3.heap.size := hP2.lt
    have hzw1 := hD2.size
    have hzw2 := hB1.size
    rw [← hW3]
    replace hW3 := Lib.hid hW3
    clear hD2
    have hD2 := hD2'
    clear hD2'
    refine hK.out _ _ ⟨(hC23).at 0 _ rfl, (hC23).at 1 _ rfl, (hC23).at 2 _ rfl, (hC23).at 3 _ rfl, (hC23).at 4 _ rfl, (hC23).at 5 _ rfl⟩ (fun hHeld => ?_)
    clear hK K
    refine wpAnyH_ready (rs := [2]) (by kernel_rfl) (by simp) ?_
    refine AllReadyH.cons (o := { dst := some 21, op := _, type := _, pos := _, after := _, guard := _ }) rfl (fun K hK => ?_) AllReadyH.nil
    skip
    go_simp
    go_at_call 30
    refine (HT.out _ (Kd.C_below hkn.out hB23)).mono ?_
    rintro e w3 ⟨v3, rfl, hR3, hb3⟩
    obtain ⟨A3, c3, rfl, hc3, hkn3⟩ := C_of hR3
    have hC3 := (hC23).below hb3 (hC23).lt
    have hK3 := (hK23).below hb3 (hK23).lt
    have hB3 : Below w.heap.size w w3 := (hB23).trans (hb3.mono (hB23).size)
    have hD3 := hD2.trans (hb3.mono hD2.size)
    (try simp only [Result.andThen])
    have hP3 := hP2.below hb3 hP2.lt
    have hz33 := hb3.size
    refine hK.out _ _ ⟨(hC3).at 0 _ rfl, (hC3).at 1 _ rfl, (hC3).at 2 _ rfl, (hC3).at 3 _ rfl, (hC3).at 4 _ rfl, (hC3).at 5 _ rfl⟩ (fun hHeld => ?_)
    clear hK K
    refine wpAnyH_ready (rs := [4]) (by kernel_rfl) (by simp) ?_
    refine AllReadyH.cons (o := { dst := some 23, op := _, type := _, pos := _, after := _, guard := _ }) rfl (fun K hK => ?_) AllReadyH.nil
    skip
    go_simp
    go_at_call 29
    refine (H1.out A1 c1 A3 c3 _ (Kd.C_below hC1 hD3) hc1 hkn3 (cell_below hB3 hm hg) (by have := (hB3).size; omega)).mono ?_
    rintro e w4 ⟨A2, c2, A4, c4, he, hc2, hT2, hL2, hb4⟩
    simp only [SesV] at he hc2 hT2 hL2
    subst he
    have hC4 := (hC3).below hb4 (hC3).lt
    have hK4 := (hK3).below hb4 (hK3).lt
    have hB4 : Below w.heap.size w w4 := (hB3).trans (hb4.mono (hB3).size)
    (try simp only [Result.andThen])
    have hP5 := hP3.below hb4 hP3.lt
    have hD4 := hD3.trans (hb4.mono hD3.size)
    refine hK.out _ _ ⟨(hC4).at 0 _ rfl, (hC4).at 1 _ rfl, (hC4).at 2 _ rfl, (hC4).at 3 _ rfl, (hC4).at 4 _ rfl, (hC4).at 5 _ rfl⟩ (fun hHeld => ?_)
    clear hK K
    refine wpAnyH_take (i := 5) (oi := { dst := some 18, op := _, type := _, pos := _, after := _, guard := _ }) (v := .tuple #[.agg #[.int .i64 st2, .string fr2.loc, .string fr2.dom, .slice A2 to2.length c2, .string tx2, .bool lg2], .int .i64 code, .slice A4 ls.length c4, .int .i64 er]) rfl (by kernel_rfl) (by kernel_rfl) (by kernel_rfl) (fun _ _ _ h => h) (Or.inl ⟨by rfl, by (intro w hSw; (try dsimp only at hSw); first | (go_simp; done) | (go_simp; with_reducible rfl) | (go_simp; omega) | (go_simp; simp [*]; done))⟩) (by assumption) ?_; try simp only [Act.put, List.setIfInBounds_toArray, List.set_cons_zero, List.set_cons_succ]
    refine wpAnyH_take (i := 6) (oi := { dst := some 24, op := _, type := _, pos := _, after := _, guard := _ }) (v := .agg #[.int .i64 st2, .string fr2.loc, .string fr2.dom, .slice A2 to2.length c2, .string tx2, .bool lg2]) rfl (by kernel_rfl) (by kernel_rfl) (by kernel_rfl) (fun _ _ _ h => h) (Or.inl ⟨by rfl, by (intro w hSw; (try dsimp only at hSw); first | (go_simp; done) | (go_simp; with_reducible rfl) | (go_simp; omega) | (go_simp; simp [*]; done))⟩) (by assumption) ?_; try simp only [Act.put, List.setIfInBounds_toArray, List.set_cons_zero, List.set_cons_succ]
    refine wpAnyH_take (i := 7) (oi := { dst := some 25, op := _, type := _, pos := _, after := _, guard := _ }) (v := .int .i64 code) rfl (by kernel_rfl) (by kernel_rfl) (by kernel_rfl) (fun _ _ _ h => h) (Or.inl ⟨by rfl, by (intro w hSw; (try dsimp only at hSw); first | (go_simp; done) | (go_simp; with_reducible rfl) | (go_simp; omega) | (go_simp; simp [*]; done))⟩) (by assumption) ?_; try simp only [Act.put, List.setIfInBounds_toArray, List.set_cons_zero, List.set_cons_succ]
    refine wpAnyH_take (i := 8) (oi := { dst := some 26, op := _, type := _, pos := _, after := _, guard := _ }) (v := .slice A4 ls.length c4) rfl (by kernel_rfl) (by kernel_rfl) (by kernel_rfl) (fun _ _ _ h => h) (Or.inl ⟨by rfl, by (intro w hSw; (try dsimp only at hSw); first | (go_simp; done) | (go_simp; with_reducible rfl) | (go_simp; omega) | (go_simp; simp [*]; done))⟩) (by assumption) ?_; try simp only [Act.put, List.setIfInBounds_toArray, List.set_cons_zero, List.set_cons_succ]
    refine wpAnyH_take (i := 9) (oi := { dst := some 27, op := _, type := _, pos := _, after := _, guard := _ }) (v := .int .i64 er) rfl (by kernel_rfl) (by kernel_rfl) (by kernel_rfl) (fun _ _ _ h => h) (Or.inl ⟨by rfl, by (intro w hSw; (try dsimp only at hSw); first | (go_simp; done) | (go_simp; with_reducible rfl) | (go_simp; omega) | (go_simp; simp [*]; done))⟩) (by assumption) ?_; try simp only [Act.put, List.setIfInBounds_toArray, List.set_cons_zero, List.set_cons_succ]
    have z0 := (hP5).at 0 _ rfl
    have z1 := (hP5).at 1 _ rfl
    have z2 := (hP5).at 2 _ rfl
    have z3 := (hP5).at 3 _ rfl
    have z4 := (hP5).at 4 _ rfl
    have z5 := (hP5).at 5 _ rfl
    have f0 := (hP5).free 0 _ rfl
    have f1 := (hP5).free 1 _ rfl
    have f2 := (hP5).free 2 _ rfl
    have f3 := (hP5).free 3 _ rfl
    have f4 := (hP5).free 4 _ rfl
    have f5 := (hP5).free 5 _ rfl
    have fl := (hP5).lt
    refine wpAnyH_ready (rs := [11]) (by kernel_rfl) (by simp) ?_
    refine AllReadyH.cons (o := { dst := none, op := _, type := _, pos := _, after := _, guard := _ }) rfl (fun K hK => ?_) AllReadyH.nil
    go_simp
    obtain ⟨V, hV⟩ : ∃ V : World, V = ((((((w4).setCell ⟨V2.heap.size, 0, none⟩ (.int .i64 st2)).setCell ⟨V2.heap.size, 1, none⟩ (.string fr2.loc)).setCell ⟨V2.heap.size, 2, none⟩ (.string fr2.dom)).setCell ⟨V2.heap.size, 3, none⟩ (.slice A2 to2.length c2)).setCell ⟨V2.heap.size, 4, none⟩ (.string tx2)).setCell ⟨V2.heap.size, 5, none⟩ (.bool lg2) := ⟨_, rfl⟩
    have hPV : Blk V V2.heap.size [.int .i64 st2, .string fr2.loc, .string fr2.dom, .slice A2 to2.length c2, .string tx2, .bool lg2] := by rw [hV]; exact ((((((hP5).set 0 (.int .i64 st2) (by simp)).set 1 (.string fr2.loc) (by simp)).set 2 (.string fr2.dom) (by simp)).set 3 (.slice A2 to2.length c2) (by simp)).set 4 (.string tx2) (by simp)).set 5 (.bool lg2) (by simp)
    have hCV : Blk V n7 [.int .i64 st, .string fr.loc, .string fr.dom, .slice A1 to_.length c1, .string tx, .bool lg] := by rw [hV]; exact ((((((hC4).other (by omega) _).other (by omega) _).other (by omega) _).other (by omega) _).other (by omega) _).other (by omega) _
    have hKV : Blk V w.heap.size [.int .i64 st, .string fr.loc, .string fr.dom, .slice A to_.length c, .string tx, .bool lg] := by rw [hV]; exact ((((((hK4).other (by omega) _).other (by omega) _).other (by omega) _).other (by omega) _).other (by omega) _).other (by omega) _
    have hBV : Below w.heap.size w V := by rw [hV]; exact below_six hB4 (by omega)
    have hTV : Kd.C kAAddress V A2 to2.length to2 := by rw [hV]; exact (toX_six hT2 (by omega)).now
    have hLV : Kd.C kALetter V A4 ls.length ls := by rw [hV]; exact (toX_six hL2 (by omega)).now
    have hDV : Below w1.heap.size w1 V := by rw [hV]; exact below_six hD4 (by omega)
    rw [← hV]
    replace hV := Lib.hid hV
    refine hK.out _ _ ⟨(hCV).at 0 _ rfl, (hCV).at 1 _ rfl, (hCV).at 2 _ rfl, (hCV).at 3 _ rfl, (hCV).at 4 _ rfl, (hCV).at 5 _ rfl⟩ (fun hHeld => ?_)
    clear hK K z0 z1 z2 z3 z4 z5 f0 f1 f2 f3 f4 f5 fl
    refine wpAnyH_take (i := 12) (oi := { dst := some 9, op := _, type := _, pos := _, after := _, guard := _ }) (v := .int .i64 code) rfl (by kernel_rfl) (by kernel_rfl) (by kernel_rfl) (fun _ _ _ h => h) (Or.inl ⟨by rfl, by (intro w hSw; (try dsimp only at hSw); first | (go_simp; done) | (go_simp; with_reducible rfl) | (go_simp; omega) | (go_simp; simp [*]; done))⟩) (by assumption) ?_; try simp only [Act.put, List.setIfInBounds_toArray, List.set_cons_zero, List.set_cons_succ]
    refine wpAnyH_take (i := 13) (oi := { dst := some 10, op := _, type := _, pos := _, after := _, guard := _ }) (v := .slice A4 ls.length c4) rfl (by kernel_rfl) (by kernel_rfl) (by kernel_rfl) (fun _ _ _ h => h) (Or.inl ⟨by rfl, by (intro w hSw; (try dsimp only at hSw); first | (go_simp; done) | (go_simp; with_reducible rfl) | (go_simp; omega) | (go_simp; simp [*]; done))⟩) (by assumption) ?_; try simp only [Act.put, List.setIfInBounds_toArray, List.set_cons_zero, List.set_cons_succ]
    refine wpAnyH_take (i := 14) (oi := { dst := some 11, op := _, type := _, pos := _, after := _, guard := _ }) (v := .int .i64 er) rfl (by kernel_rfl) (by kernel_rfl) (by kernel_rfl) (fun _ _ _ h => h) (Or.inl ⟨by rfl, by (intro w hSw; (try dsimp only at hSw); first | (go_simp; done) | (go_simp; with_reducible rfl) | (go_simp; omega) | (go_simp; simp [*]; done))⟩) (by assumption) ?_; try simp only [Act.put, List.setIfInBounds_toArray, List.set_cons_zero, List.set_cons_succ]
    refine wpAnyH_done (by kernel_rfl) ?_ _
    skip
    have k0 := hKV.at 0 _ rfl
    have k1 := hKV.at 1 _ rfl
    have k2 := hKV.at 2 _ rfl
    have k3 := hKV.at 3 _ rfl
    have k4 := hKV.at 4 _ rfl
    have k5 := hKV.at 5 _ rfl
    have kl := hKV.lt
    go_wp2_with fail
    refine (H2.out V (Kd.C_below hr.out hBV) (Kd.C_below hkn.out hBV)).mono ?_
    rintro e w6 ⟨A6, c6, A7, c7, he, hc6, hT6, hL6, hb6⟩
    simp only [SesV] at he hc6 hT6 hL6
    subst he
    obtain ⟨W6, hW6⟩ : ∃ W6 : World, W6 = w6.alloc (.cells #[.int .i64 st2, .string fr2.loc, .string fr2.dom, .slice A6 to2.length c6, .string tx2, .bool lg2] 52) := ⟨_, rfl⟩
    have hA6 : Below w6.heap.size w6 W6 := by rw [hW6]; exact (Below.refl _ _).alloc (Nat.le_refl _) _
    have hV6 : Below V.heap.size V W6 := hb6.trans (hA6.mono hb6.size)
    have hB6 : Below w.heap.size w W6 := hBV.trans (hV6.mono hBV.size)
    have S1 := Lib.hid (sameSession_calls ⟨st2, fr2, to2, tx2, lg2⟩ A2 c2 A6 c6 W6 (Kd.C_below hTV hV6) (Kd.C_below hT6.now hA6))
    have S2 := Lib.hid (fun X (h : Below W6.heap.size W6 X) => sameLetters_calls A4 c4 A7 c7 ls X (Kd.C_below (Kd.C_below hLV hV6) h) (Kd.C_below (Kd.C_below hL6.now hA6) h))
    have S3 := Lib.hid (fun X (h : Below W6.heap.size W6 X) => sameSession_calls ⟨st, fr, to_, tx, lg⟩ A1 c1 A c X (Kd.C_below (Kd.C_below (Kd.C_below hC1 hDV) hV6) h) (Kd.C_below hr.out (hB6.trans (h.mono hB6.size))))
    simp only [SesV] at S1 S3
    have hO : Blk W6 w6.heap.size [.int .i64 st2, .string fr2.loc, .string fr2.dom, .slice A6 to2.length c6, .string tx2, .bool lg2] := by rw [hW6]; exact Blk.made w6 _ _
    have hP6 := hPV.below hV6 hPV.lt
    have hC6 := hCV.below hV6 hCV.lt
    have hK6 := hKV.below hV6 hKV.lt
    clear k0 k1 k2 k3 k4 k5 kl hTV hLV hT6 hL6 hPV hCV hKV
    have k0 := hK6.at 0 _ rfl
    have k1 := hK6.at 1 _ rfl
    have k2 := hK6.at 2 _ rfl
    have k3 := hK6.at 3 _ rfl
    have k4 := hK6.at 4 _ rfl
    have k5 := hK6.at 5 _ rfl
    have o0 := hO.at 0 _ rfl
    have o1 := hO.at 1 _ rfl
    have o2 := hO.at 2 _ rfl
    have o3 := hO.at 3 _ rfl
    have o4 := hO.at 4 _ rfl
    have o5 := hO.at 5 _ rfl
    have p0 := hP6.at 0 _ rfl
    have p1 := hP6.at 1 _ rfl
    have p2 := hP6.at 2 _ rfl
    have p3 := hP6.at 3 _ rfl
    have p4 := hP6.at 4 _ rfl
    have p5 := hP6.at 5 _ rfl
    rw [hW6] at o0 o1 o2 o3 o4 o5 p0 p1 p2 p3 p4 p5
    go_wp2_with fail
    rw [← hW6]
    clear o0 o1 o2 o3 o4 o5 p0 p1 p2 p3 p4 p5 k0 k1 k2 k3 k4 k5
    replace hW6 := Lib.hid hW6
    refine S1.out.mono ?_
    rintro e w7 ⟨rfl, hb7⟩
    go_wp2_with fail
    refine (S2.out _ hb7).mono ?_
    rintro e w8 ⟨rfl, hb8⟩
    have hb68 : Below W6.heap.size W6 w8 := hb7.trans (hb8.mono hb7.size)
    have hC8 := hC6.below hb68 hC6.lt
    have hK8 := hK6.below hb68 hK6.lt
    have k0 := hK8.at 0 _ rfl
    have k1 := hK8.at 1 _ rfl
    have k2 := hK8.at 2 _ rfl
    have k3 := hK8.at 3 _ rfl
    have k4 := hK8.at 4 _ rfl
    have k5 := hK8.at 5 _ rfl
    have o0 := hC8.at 0 _ rfl
    have o1 := hC8.at 1 _ rfl
    have o2 := hC8.at 2 _ rfl
    have o3 := hC8.at 3 _ rfl
    have o4 := hC8.at 4 _ rfl
    have o5 := hC8.at 5 _ rfl
    go_wp2_with fail
    refine (S3.out _ hb68).mono ?_
    rintro e w9 ⟨rfl, hb9⟩
    have hB9 : Below w.heap.size w w9 := hB6.trans ((hb68.trans (hb9.mono hb68.size)).mono hB6.size)
    go_wp2_with fail
    go_ret
    exact ⟨(by first | rfl | (simp; done) | (simp [*]; done) | (rw [if_pos (by omega)]; first | rfl | (simp; done)) | (rw [if_neg (by omega)]; first | rfl | (simp; done)) | (simp; omega)), hB9⟩
end Go.Proofs.YtijdghplfhfpaaaDoor.H

/- The law LmtpLines answers true at every session, list of names and line of small bulk: lmtp.Line answers as the reference's Lined, and changes nothing. -/
namespace Go.Proofs.YtijdghplfhfpaaaDoor.lmtpLines
open Go.ChangeShapes Go.WideShapes Go.ChangeAt Go.RowKit Go.Proofs.YtijdghplfhfpaaaDoorW.PrintWords Go.Proofs.YtijdghplfhfpaaaDoor.U Go.Proofs.YtijdghplfhfpaaaDoor.UB Go.Proofs.YtijdghplfhfpaaaDoor.H
open Go.ChangeMaps (open_string shut_string)
set_option linter.unusedVariables false
set_option maxRecDepth 100000
theorem own : ownKnob Tryd.prog.godebug = none := by kernel_rfl
theorem laidOut : laidOutB Tryd.prog = true := by kernel_rfl
def okAAddress (x : AAddress) : Prop := x.loc.size ≤ bulkTop ∧ x.dom.size ≤ bulkTop
theorem opens_AAddress {n : Nat} : OpensN Tryd.prog n 49 kAAddress okAAddress := by
  intro H enc W base spare held cs x h hm
  obtain ⟨⟨a0, a1⟩, hk, ⟨h0_, h1_⟩⟩ := (opens_struct Tryd.underlying49 (len := 2) (by kernel_rfl) (fun _ _ => (opensF_cons rfl (by kernel_rfl) (opens_string Tryd.underlying9) (opensF_one rfl (by kernel_rfl) (opens_string Tryd.underlying9))))) enc W base spare held cs x h hm
  obtain ⟨_, _, rfl, rfl, rfl⟩ := hk
  exact ⟨⟨a0, a1⟩, rfl, h0_, h1_⟩
def kSession : Kd (Int × AAddress × List AAddress × ByteArray × Bool) := Kd.pair (Kd.int .i64) (Kd.pair kAAddress (Kd.pair (Kd.slice 49 kAAddress) (Kd.pair Kd.string Kd.bool)))
theorem opens : Opens Tryd.prog 52 kSession (fun y => (Lit.int .i64 y.1).wf = true ∧ okAAddress y.2.1 ∧ (y.2.2.1.length ≤ bulkTop ∧ ∀ b ∈ y.2.2.1, okAAddress b) ∧ y.2.2.2.1.size ≤ bulkTop ∧ True) := fun n =>
  opens_struct Tryd.underlying52 (len := 6) (by kernel_rfl) (fun m _ => opensF_cons rfl (by kernel_rfl) (opens_int Tryd.underlying3) (opensF_cons rfl (by kernel_rfl) opens_AAddress (opensF_cons rfl (by kernel_rfl) (opens_slice Tryd.underlying50 (by kernel_rfl) (fun _ _ => opens_AAddress))
    (opensF_cons rfl (by kernel_rfl) (opens_string Tryd.underlying9) (opensF_one rfl (by kernel_rfl) (opens_bool Tryd.underlying4))))))
set_option maxRecDepth 100000 in
theorem lifted (os : Os) (started : os.Started) (H : Type) (enc : TypeId × Value → H) (F : Stop.Interp) :
    ReturnsInHanded {} Tryd.checked os 8 .any ((Rows.OpenSpec.upto Rows.lmtpLinesSpec).preRow enc Tryd.prog Tryd.f8 Rows.lmtpLinesUptoRow.domain false Rows.lmtpLinesUptoRow.laid) (((Rows.OpenSpec.upto Rows.lmtpLinesSpec).at F).post enc Tryd.prog Tryd.f8 false true false false) := by
  refine returnsInHanded_of_row (C := Tryd.checked) (s := Rows.OpenSpec.upto Rows.lmtpLinesSpec) own started (by kernel_rfl) Tryd.func8
    (witness_up (enc := enc) (C := Tryd.checked) (s := Rows.OpenSpec.upto Rows.lmtpLinesSpec) (laid := Rows.lmtpLinesUptoRow.laid) os #[.agg #[.int .i64 0, .string ByteArray.empty, .string ByteArray.empty, .slice none 0 0, .string ByteArray.empty, .bool false], .slice none 0 0, .string ByteArray.empty] 8 (World.shaped_of_ZipB (by kernel_rfl) (by kernel_rfl)) (by kernel_rfl) ([.agg [.lit (.int .i64 0), .agg [.lit (.string []), .lit (.string [])], .nil, .lit (.string []), .lit (.bool false)], .nil, .lit (.string [])], [], []) (by kernel_rfl) (by kernel_rfl)
      (fun k hk => by cases hk; kernel_rfl) (by kernel_rfl)
      (by rw [MakeChecks.laidMetH_plain _ _ _ (by kernel_rfl)]; exact laidMet_laidAll _ (by kernel_rfl) (by kernel_rfl))) ?_
  intro W base args ds gs before hval0 hW hcnd hcond hsz hL hsh _
  have hk : Rows.uptoSmall H (ds ++ gs) = true := hcond _ rfl
  have hval : ∀ (j : Nat) t v, Tryd.f8.params[j]? = some t → args[j]? = some v → Value.okWide Tryd.prog W .any base t v := hval0
  have hW' := hW
  obtain ⟨p, q, hA0, hV, rfl, hfz, hnd⟩ := hW
  have hA : DataW.TrodAll enc Tryd.prog W 0 (fun _ => true) true Tryd.f8.params.toList args.toList ds p := hA0
  rw [Tryd.params8] at hA hval
  rw [MakeChecks.laidMetH_plain _ _ _ (by kernel_rfl)] at hL
  obtain ⟨ps, hL, hLn, hLc⟩ := hL
  obtain ⟨v0, vs0, d0, ds0, p0, q0, hargs, rfl, rfl, h0, r0⟩ := trodAll_cons hA
  obtain ⟨v1, vs1, d1, ds1, p1, q1, rfl, rfl, rfl, h1, r1⟩ := trodAll_cons r0
  obtain ⟨v2, vs2, d2, ds2, p2, q2, rfl, rfl, rfl, h2, r2⟩ := trodAll_cons r1
  obtain ⟨rfl, rfl, rfl⟩ := trodAll_nil r2
  obtain rfl : args = #[v0, v1, v2] := by cases args; simp_all
  obtain ⟨rfl, rfl⟩ := trodVars_none hV
  have lt0 : ∀ x ∈ p0, x.block < W.heap.size := by obtain ⟨m, hm⟩ := h0; exact DataW.trod_lt m _ _ _ hm
  have lt1 : ∀ x ∈ p1, x.block < W.heap.size := by obtain ⟨m, hm⟩ := h1; exact DataW.trod_lt m _ _ _ hm
  have lt2 : ∀ x ∈ p2, x.block < W.heap.size := by obtain ⟨m, hm⟩ := h2; exact DataW.trod_lt m _ _ _ hm
  obtain ⟨⟨st, fr, l, tx, lg⟩, cs, rfl, ⟨_, _, hcs, rfl, ⟨_, _, rfl, h2', ⟨_, _, rfl, ⟨A, c, rfl, hl, hr⟩, ⟨_, _, rfl, rfl, rfl⟩⟩⟩⟩, ⟨_, hfr, ⟨hlen, hall⟩, _, _⟩⟩ := arg_struct Tryd.underlying52 (hval 0 _ v0 rfl rfl) h0 (bulk_arg hk (j := 0) rfl) opens
  obtain rfl : cs = #[.int .i64 st, .string fr.loc, .string fr.dom, .slice A l.length c, .string tx, .bool lg] := by
    have h2'' : _ = fr.enc := h2'
    subst h2''
    cases cs; simpa [AAddress.enc] using hcs
  obtain ⟨kn, A0, c0, rfl, hl0, hr0, hlen0, _⟩ := arg_slice Tryd.underlying53 (hval 1 _ v1 rfl rfl) h1 (bulk_arg hk (j := 1) rfl) (fun _ => opens_slice Tryd.underlying53 (by kernel_rfl) (fun _ _ => opens_string Tryd.underlying9))
  obtain ⟨line, rfl, hline⟩ := arg_string Tryd.underlying9 (hval 2 _ v2 rfl rfl) h2 (bulk_arg hk (j := 2) rfl)
  obtain ⟨m, hm⟩ := cell_of_shapedOpen_int (g := 6) (zero := #[.int .i64 0]) hsh (of_decide_eq_true (by kernel_rfl)) (by kernel_rfl) (by kernel_rfl) (by kernel_rfl) (by kernel_rfl) Tryd.underlying3
  refine (lmtpLines_walk st fr A c l tx lg A0 c0 kn line m W hr hl hlen hfr.1 hfr.2 hall hr0 hlen0 hline hm (lt_of_cell hm)).mono fun e W' ⟨he, bel⟩ => ?_
  subst he
  refine ⟨_, rfl, _, _, _, [], _, [], hW', trodAll_mk1 (shut_bool Tryd.underlying4 _), (trodAll_cons_mk (Below.trod laidOut (by kernel_rfl) (of_decide_eq_true (by kernel_rfl)) h0 bel lt0) (trodAll_cons_mk (Below.trod laidOut (by kernel_rfl) (of_decide_eq_true (by kernel_rfl)) h1 bel lt1) (trodAll_cons_mk (Below.trod laidOut (by kernel_rfl) (of_decide_eq_true (by kernel_rfl)) h2 bel lt2) trodAll_mk0))), rfl, bel.frame _, fun h => by cases h⟩
theorem over : Rows.lmtpLinesUptoRow.holds Tryd.pinned (Rows.OpenSpec.upto Rows.lmtpLinesSpec) :=
  OpenClaim.holds_of_cond 8 Tryd.f8 rfl rfl rfl rfl rfl rfl rfl ⟨rfl, rfl, rfl, rfl, rfl⟩ rfl rfl rfl rfl rfl (by kernel_rfl) Tryd.func8 (by kernel_rfl)
    (of_decide_eq_true (by kernel_rfl)) (by unfold Func.isWrapper; first | (rw [if_pos (by decide +kernel)]; kernel_rfl) | (rw [if_neg (by decide +kernel)]; exact ⟨rfl, rfl⟩))
    (fun os started H enc _ F => by rw [OpenClaim.pre_eq_preRow]; exact lifted os started H enc F)
theorem card : Rows.LmtpLinesUptoCardSaid :=
  Claim7.holds_tied_plain_at .later [] _ _ _ _ over (fun _ h => by cases h) (by kernel_rfl) (fun _ h => by cases h) lmtpLinesUpto_row_tie rfl ⟨rfl, rfl⟩ (by kernel_rfl) rfl
    (fun f fn hf hfn => by
      obtain rfl : f = 8 := Option.some.inj ((show Tryd.prog.funcNamed "postroom/postroomlaw.LmtpLines" = some 8 by kernel_rfl).symm.trans hf) |>.symm
      obtain rfl : fn = Tryd.f8 := (Option.some.inj (Tryd.func8.symm.trans hfn)).symm
      exact ⟨by kernel_rfl, fun j t ht => by
        have hm : t ∈ Tryd.f8.params.toList := by simpa using Array.mem_of_getElem? ht
        have hall : (Tryd.f8.params.toList.all fun u => !Tryd.prog.wantsStandIn u) = true := by kernel_rfl
        exact (show Tryd.prog.wantsStandIn t = false by simpa using List.all_eq_true.1 hall t hm)⟩)
    (by kernel_rfl)
end Go.Proofs.YtijdghplfhfpaaaDoor.lmtpLines
namespace Go.Proofs.YtijdghplfhfpaaaDoor
theorem lmtpLines_holds : Rows.LmtpLinesUptoCardSaid := lmtpLines.card
#print axioms lmtpLines_holds
end Go.Proofs.YtijdghplfhfpaaaDoor
