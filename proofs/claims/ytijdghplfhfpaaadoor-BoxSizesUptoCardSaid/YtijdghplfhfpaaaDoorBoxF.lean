/- Boxes: find and boxOf. -/
import Derived.Test.YtijdghplfhfpaaaDoorBoxE
namespace Go.Proofs.YtijdghplfhfpaaaDoor.H
open Go.RowKit Go.Proofs.YtijdghplfhfpaaaDoorW.PrintWords Go.Proofs.YtijdghplfhfpaaaDoorW.PrintLast Go.Proofs.YtijdghplfhfpaaaDoorW.PrintMore Go.Proofs.YtijdghplfhfpaaaDoor.U
set_option linter.unusedVariables false
set_option linter.unusedSimpArgs false
/-- Where the first box with a name stands; -1: there is none. -/
def findG (nm : ByteArray) : List ABox → Int → Int
  | [], _ => -1
  | b :: l, k => if b.1 = nm then k else findG nm l (k + 1)
theorem find_yes {nm : ByteArray} {bs : List ABox} {k : Nat} (h : k < bs.length) (h2 : bs[k].1 = nm) (i : Int) : findG nm (bs.drop k) i = i := by
  rw [List.drop_eq_getElem_cons h, findG, if_pos h2]
theorem find_no {nm : ByteArray} {bs : List ABox} {k : Nat} (h : k < bs.length) (h2 : ¬ bs[k].1 = nm) (i : Int) : findG nm (bs.drop k) i = findG nm (bs.drop (k + 1)) (i + 1) := by
  rw [List.drop_eq_getElem_cons h, findG, if_neg h2]
theorem find_end (nm : ByteArray) (bs : List ABox) (i : Int) : findG nm (bs.drop bs.length) i = -1 := by rw [List.drop_length]; rfl
theorem name_eq (a b : ByteArray) : (a.toList == b.toList) = decide (a = b) := by
  rw [Bool.eq_iff_iff]
  simp only [beq_iff_eq, decide_eq_true_eq, ByteArray.toList_eq, bytes_iff]
set_option maxHeartbeats 1000000 in
set_option maxRecDepth 100000 in
theorem boxOf_calls (A : Option Addr) (c : Nat) (bs : List ABox) (nm : ByteArray) (w : World) (hr : kBox.C w A bs.length bs) :
    Calls Tryd.prog 51 #[.slice A bs.length c, .string nm] w fun e w' => e = .returned (.int .i64 (findG nm bs 0)) ∧ w = w' := by
  have h63 := hr.2.1
  generalize hR : findG nm bs 0 = R
  go_enter Tryd.func51, Tryd.ntmps51
  go_wp2_with fail
  go_loopw [5] (fun i wr => ∃ k : Nat, k ≤ bs.length ∧ i = .int .i64 k ∧ findG nm (bs.drop k) k = R ∧ w = wr) (fun i _ => bs.length - (intOf i).toNat)
  case atStart => exact ⟨0, Nat.zero_le _, rfl, hR, rfl⟩
  case round =>
    clear hR
    obtain ⟨k, hk, rfl, hR, hw⟩ := hrel
    subst hw
    by_cases hlt : k < bs.length
    · obtain ⟨ad, Ae, ce, e1, x0, x1, x2, hC⟩ := box_at hr k hlt
      subst e1
      have i0 : (0 : Int) ≤ (k : Int) := by omega
      have i1 : (k : Int) < (bs.length : Int) := by omega
      have hy := fun h => find_yes (nm := nm) hlt h (k : Int)
      have hn := fun h => find_no (nm := nm) hlt h (k : Int)
      have hq := name_eq bs[k].1 nm
      rw [hR] at hy hn
      generalize bs[k].1 = x at *
      by_cases he : x = nm
      · have := hy he
        subst this
        rw [decide_eq_true he] at hq
        clear hy hn he hR
        go_wp2_with fail
        go_ret
        exact ⟨(by first | rfl | (simp; done) | (simp [*]; done) | (rw [if_pos (by omega)]; first | rfl | (simp; done)) | (rw [if_neg (by omega)]; first | rfl | (simp; done)) | (simp; omega)), by trivial⟩
      · have hn2 := Lib.hid (hn he)
        rw [decide_eq_false he] at hq
        clear hy hn he hR
        go_wp2_with fail
        go_roundw
        case rel => exact ⟨k + 1, hlt, by go_num, by rw [hn2.out]; rfl, by trivial⟩
        case measure => simp [intOf]; omega
    · obtain rfl : k = bs.length := by omega
      rw [find_end] at hR
      subst hR
      have i1 : ¬ (bs.length : Int) < (bs.length : Int) := by omega
      go_wp2_with fail
      go_ret
      exact ⟨(by first | rfl | (simp; done) | (simp [*]; done) | (rw [if_pos (by omega)]; first | rfl | (simp; done)) | (rw [if_neg (by omega)]; first | rfl | (simp; done)) | (simp; omega)), by trivial⟩
set_option maxHeartbeats 1000000 in
set_option maxRecDepth 100000 in
theorem sameName_calls (x : ByteArray) (nx : Int) (A : Option Addr) (n c : Nat) (nm : ByteArray) (pb : Nat) (w : World) (hp : w.cell? ⟨pb, 0, none⟩ = some (.string nm)) (hpb : pb < w.heap.size) :
    Calls Tryd.prog 86 #[.agg #[.string x, .int .i64 nx, .slice A n c], .pointer (some ⟨pb, 0, none⟩)] w fun e w' => e = .returned (.bool (decide (x = nm))) ∧ Below w.heap.size w w' := by
  have hq := name_eq x nm
  generalize decide (x = nm) = d at *
  go_enter Tryd.func86, Tryd.ntmps86
  go_wp2_with fail
  go_ret
  exact ⟨(by first | rfl | (simp; done) | (simp [*]; done) | (rw [if_pos (by omega)]; first | rfl | (simp; done)) | (rw [if_neg (by omega)]; first | rfl | (simp; done)) | (simp; omega)), (by repeat (first | exact Below.refl _ _ | apply below_alloc | apply pw_below_drewN | apply below_drew1 | (refine Below.setCell ?_ (by first | (simp; done) | (simp; omega) | omega) _) ))⟩
set_option maxHeartbeats 1000000 in
set_option maxRecDepth 100000 in
theorem indexBox_calls (A : Option Addr) (c : Nat) (bs : List ABox) (nm : ByteArray) (pb : Nat) (w : World) (hr : kBox.C w A bs.length bs) (hp : w.cell? ⟨pb, 0, none⟩ = some (.string nm)) (hpb : pb < w.heap.size) :
    Calls Tryd.prog 85 #[.slice A bs.length c, .func (.func 86) #[] #[.pointer (some ⟨pb, 0, none⟩)]] w fun e w' => e = .returned (.int .i64 (findG nm bs 0)) ∧ Below w.heap.size w w' := by
  have h63 := hr.2.1
  generalize hR : findG nm bs 0 = R
  go_enter Tryd.func85, Tryd.ntmps85
  go_wp2_with fail
  go_loopw [8] (fun i wr => ∃ k : Nat, k ≤ bs.length ∧ i = .int .i64 k ∧ findG nm (bs.drop k) k = R ∧ Below w.heap.size w wr) (fun i _ => bs.length - (intOf i).toNat)
  case atStart => exact ⟨0, Nat.zero_le _, rfl, hR, Below.refl _ _⟩
  case round =>
    clear hR
    obtain ⟨k, hk, rfl, hR, hB⟩ := hrel
    by_cases hlt : k < bs.length
    · obtain ⟨ad, Ae, ce, e1, x0, x1, x2, hC⟩ := box_at (Kd.C_below hr hB) k hlt
      subst e1
      rw [add1] at x1
      rw [add2] at x2
      have i0 : (0 : Int) ≤ (k : Int) := by omega
      have i1 : (k : Int) < (bs.length : Int) := by omega
      have hpw := (hB.cell (p := ⟨pb, 0, none⟩) hpb).trans hp
      have hy := fun h => find_yes (nm := nm) hlt h (k : Int)
      have hn := fun h => find_no (nm := nm) hlt h (k : Int)
      rw [hR] at hy hn
      generalize bs[k].1 = x at *
      generalize bs[k].2.1 = nx at *
      generalize bs[k].2.2 = l at *
      have HC := sameName_calls x nx Ae l.length ce nm pb wr hpw (Nat.lt_of_lt_of_le hpb hB.size)
      by_cases he : x = nm
      · have := hy he
        subst this
        rw [decide_eq_true he] at HC
        replace HC := Lib.hid HC
        clear hy hn he hR
        go_wp2_with fail
        refine HC.out.mono ?_
        rintro e w2 ⟨rfl, hb2⟩
        go_wp2_with fail
        go_ret
        exact ⟨(by first | rfl | (simp; done) | (simp [*]; done) | (rw [if_pos (by omega)]; first | rfl | (simp; done)) | (rw [if_neg (by omega)]; first | rfl | (simp; done)) | (simp; omega)), hB.trans (hb2.mono hB.size)⟩
      · have hn2 := Lib.hid (hn he)
        rw [decide_eq_false he] at HC
        replace HC := Lib.hid HC
        clear hy hn he hR
        go_wp2_with fail
        refine HC.out.mono ?_
        rintro e w2 ⟨rfl, hb2⟩
        go_wp2_with fail
        go_roundw
        case rel => exact ⟨k + 1, hlt, by go_num, by rw [hn2.out]; rfl, hB.trans (hb2.mono hB.size)⟩
        case measure => simp [intOf]; omega
    · obtain rfl : k = bs.length := by omega
      rw [find_end] at hR
      subst hR
      have i1 : ¬ (bs.length : Int) < (bs.length : Int) := by omega
      go_wp2_with fail
      go_ret
      exact ⟨(by first | rfl | (simp; done) | (simp [*]; done) | (rw [if_pos (by omega)]; first | rfl | (simp; done)) | (rw [if_neg (by omega)]; first | rfl | (simp; done)) | (simp; omega)), hB⟩
set_option maxHeartbeats 1000000 in
set_option maxRecDepth 100000 in
theorem find_calls (A : Option Addr) (c : Nat) (bs : List ABox) (nm : ByteArray) (w : World) (hr : kBox.C w A bs.length bs) :
    Calls Tryd.prog 47 #[.slice A bs.length c, .string nm] w fun e w' => e = .returned (.int .i64 (findG nm bs 0)) ∧ Below w.heap.size w w' := by
  have HI := indexBox_calls A c bs nm w.heap.size (w.alloc (.cells #[.string nm] 9)) (Kd.C_below hr (by repeat (first | exact Below.refl _ _ | apply below_alloc | apply pw_below_drewN | apply below_drew1 | (refine Below.setCell ?_ (by first | (simp; done) | (simp; omega) | omega) _) ))) (by simp) (by simp)
  generalize findG nm bs 0 = R at *
  replace HI := Lib.hid HI
  go_enter Tryd.func47, Tryd.ntmps47
  go_wp2_with fail
  refine HI.out.mono ?_
  rintro e w2 ⟨rfl, hb2⟩
  go_wp2_with fail
  go_ret
  exact ⟨(by first | rfl | (simp; done) | (simp [*]; done) | (rw [if_pos (by omega)]; first | rfl | (simp; done)) | (rw [if_neg (by omega)]; first | rfl | (simp; done)) | (simp; omega)), (by repeat (first | exact Below.refl _ _ | apply below_alloc | apply pw_below_drewN | apply below_drew1 | (refine Below.setCell ?_ (by first | (simp; done) | (simp; omega) | omega) _) | (refine below_then ?_ (by first | (simp; done) | (simp; omega) | omega) hb2)))⟩
end Go.Proofs.YtijdghplfhfpaaaDoor.H
