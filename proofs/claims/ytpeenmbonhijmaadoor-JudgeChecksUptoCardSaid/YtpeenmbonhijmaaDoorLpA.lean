/- Letters parsed: strings.Cut at a line's end and at a colon; the reference's colonAt. -/
import Derived.Test.YtpeenmbonhijmaaDoorLpP
namespace Go.Proofs.YtpeenmbonhijmaaDoor.H
open Go.RowKit Go.Proofs.YtpeenmbonhijmaaDoorW.PrintWords Go.Proofs.YtpeenmbonhijmaaDoorW.PrintLast Go.Proofs.YtpeenmbonhijmaaDoorW.PrintMore Go.Proofs.YtpeenmbonhijmaaDoor.U
set_option linter.unusedVariables false
set_option linter.unusedSimpArgs false
theorem ext_list (s : ByteArray) (i e : Nat) (h : e ≤ s.size) : (s.extract i e).data.toList = (s.data.toList.drop i).take (e - i) := by
  simp [ByteArray.data_extract, Array.toList_extract, List.extract_eq_take_drop]
theorem cut_line (s : ByteArray) (i e : Nat) (h : lineV s i = e) (h1 : i ≤ e) (h2 : e + 2 ≤ s.size) : Lib.cut (s.extract i s.size).data.toList [13, 10] = ((s.extract i e).data.toList, (s.extract (e + 2) s.size).data.toList, true) := by
  have hx : Lib.index (s.data.toList.drop i) crlf = ((e - i : Nat) : Int) := by
    unfold lineV at h
    split at h
    · omega
    · omega
  have e1 : (s.extract i s.size).data.toList = s.data.toList.drop i := by
    rw [ext_list s i s.size (Nat.le_refl _), List.take_of_length_le (by simp)]
  have e2 : (s.extract (e + 2) s.size).data.toList = s.data.toList.drop (e + 2) := by
    rw [ext_list s _ s.size (Nat.le_refl _), List.take_of_length_le (by simp)]
  rw [Lib.cut, e1, show Lib.index (s.data.toList.drop i) [13, 10] = ((e - i : Nat) : Int) from hx, if_pos (by omega), Int.toNat_natCast, ext_list s i e (by omega), e2, List.drop_drop]
  congr 2
  simp
  omega
theorem cut_open_line (s : ByteArray) (i : Nat) (h : lineV s i = -1) : Lib.cut (s.extract i s.size).data.toList [13, 10] = ((s.extract i s.size).data.toList, [], false) := by
  have hx : Lib.index (s.data.toList.drop i) crlf < 0 := by
    unfold lineV at h
    split at h
    · assumption
    · omega
  have e1 : (s.extract i s.size).data.toList = s.data.toList.drop i := by
    rw [ext_list s i s.size (Nat.le_refl _), List.take_of_length_le (by simp)]
  rw [Lib.cut, e1, if_neg (by show ¬ 0 ≤ Lib.index (s.data.toList.drop i) crlf; omega)]
theorem occ_colon (l : ByteArray) (k : Nat) : Lib.occAt l.data.toList [58] k = if h : k < l.size then !(notColon l[k].toNat) else false := by
  rw [Lib.occAt]
  by_cases h : k < l.size
  · rw [dif_pos h, List.drop_eq_getElem_cons (by simpa using h)]
    simp only [List.isPrefixOf, Bool.and_true, notColon]
    rw [Array.getElem_toList, Bool.eq_iff_iff]
    simp only [beq_iff_eq, Bool.not_eq_true', decide_eq_false_iff_not, Decidable.not_not]
    constructor
    · intro h2; have : l[k] = 58 := h2.symm; rw [this]; rfl
    · intro h2
      have : l[k].toNat = (58 : UInt8).toNat := by show l[k].toNat = 58; omega
      exact (UInt8.toNat_inj.1 this).symm
  · rw [dif_neg h, List.drop_eq_nil_of_le (by simp; omega)]; rfl
theorem index_colon (l : ByteArray) : Lib.index l.data.toList [58] = if spanEnd notColon l 0 < l.size then ((spanEnd notColon l 0 : Nat) : Int) else -1 := by
  by_cases h : spanEnd notColon l 0 < l.size
  · rw [if_pos h]
    refine Lib.index_first (by simp; omega) ?_ fun j hj => ?_
    · rw [occ_colon, dif_pos h, span_stop notColon l _ 0 rfl h]; rfl
    · obtain ⟨h2, h3⟩ := span_in notColon l _ 0 rfl j (Nat.zero_le _) hj
      rw [occ_colon, dif_pos h2, h3]; rfl
  · rw [if_neg h]
    refine Lib.index_none fun j _ => ?_
    by_cases hj : j < l.size
    · obtain ⟨h2, h3⟩ := span_in notColon l _ 0 rfl j (Nat.zero_le _) (by omega)
      rw [occ_colon, dif_pos h2, h3]; rfl
    · rw [occ_colon, dif_neg hj]
theorem cut_colon_yes (l : ByteArray) (h : spanEnd notColon l 0 < l.size) : Lib.cut l.data.toList [58] = ((l.extract 0 (spanEnd notColon l 0)).data.toList, (l.extract (spanEnd notColon l 0 + 1) l.size).data.toList, true) := by
  have e2 : (l.extract (spanEnd notColon l 0 + 1) l.size).data.toList = l.data.toList.drop (spanEnd notColon l 0 + 1) := by
    rw [ext_list l _ l.size (Nat.le_refl _), List.take_of_length_le (by simp)]
  rw [Lib.cut, index_colon, if_pos h, if_pos (by omega), Int.toNat_natCast, ext_list l 0 _ (by omega), e2]
  simp
theorem cut_colon_no (l : ByteArray) (h : ¬ spanEnd notColon l 0 < l.size) : Lib.cut l.data.toList [58] = (l.data.toList, [], false) := by
  rw [Lib.cut, index_colon, if_neg h, if_neg (by omega)]
set_option maxHeartbeats 1000000 in
set_option maxRecDepth 100000 in
theorem colonAt_calls (l : ByteArray) (w : World) (hs : l.size ≤ 1048576) : Calls Tryd.prog 69 #[.string l] w fun e w' => e = .returned (.int .i64 (if spanEnd notColon l 0 < l.size then ((spanEnd notColon l 0 : Nat) : Int) else -1)) ∧ w = w' := by
  generalize hR : (if spanEnd notColon l 0 < l.size then ((spanEnd notColon l 0 : Nat) : Int) else -1) = r
  go_enter Tryd.func69, Tryd.ntmps69
  go_wp2_with fail
  go_loopw [3] (fun v wr => ∃ k : Nat, k ≤ l.size ∧ v = .int .i64 k ∧ spanEnd notColon l k = spanEnd notColon l 0 ∧ w = wr) (fun v _ => l.size - (intOf v).toNat)
  case atStart => exact ⟨0, Nat.zero_le _, rfl, rfl, rfl⟩
  case round =>
    obtain ⟨k, hk, rfl, hE, rfl⟩ := hrel
    have i0 : (0 : Int) ≤ (k : Int) := by omega
    by_cases hlt : k < l.size
    · have i1 : (k : Int) < (l.size : Int) := by omega
      have b0 := l[k].toNat_lt
      by_cases h58 : l[k].toNat = 58
      · rw [spanEnd_no _ hlt (by simp [notColon, h58])] at hE
        rw [← hE, if_pos hlt] at hR
        subst hR
        have e1 : ((l[k].toNat : Int) == 58) = true := by rw [beq_iff_eq]; omega
        clear h58 hE
        go_wp2_with fail
        go_ret
        exact ⟨rfl, rfl⟩
      · rw [spanEnd_yes _ hlt (by simp [notColon]; omega)] at hE
        have e1 : ((l[k].toNat : Int) == 58) = false := by rw [beq_eq_false_iff_ne]; omega
        have hE := Lib.hid hE
        have hR := Lib.hid hR
        clear h58
        go_wp2_with fail
        go_roundw
        case rel => exact ⟨k + 1, hlt, by go_num, hE.out, by trivial⟩
        case measure => simp [intOf]; omega
    · have i1 : ¬ (k : Int) < (l.size : Int) := by omega
      rw [spanEnd_end _ hlt] at hE
      rw [← hE, if_neg (by omega)] at hR
      subst hR
      clear hE
      go_wp2_with fail
      go_ret
      exact ⟨rfl, rfl⟩
/-- strings.Cut at the line's end, and at a colon. -/
theorem cutLine_calls (s : ByteArray) (i e : Nat) (m : Int) (w : World) (hs : s.size ≤ 1048576) (hm : w.cell? ⟨0, 0, none⟩ = some (.int .i64 m)) (h : lineV s i = e) (h1 : i ≤ e) (h2 : e + 2 ≤ s.size) :
    Calls Tryd.prog 64 #[.string (s.extract i s.size), .string ⟨#[13, 10]⟩] w fun x w' => x = .returned (.tuple #[.string (s.extract i e), .string (s.extract (e + 2) s.size), .bool true]) ∧ ∃ n, w' = w.drewN n :=
  (Tryd.strings_Cut (s.extract i s.size) ⟨#[13, 10]⟩ m w (by rw [ext_size (Nat.le_refl _)]; omega) hm).mono fun x w' hh => by
    obtain ⟨hx, hw⟩ := hh
    refine ⟨?_, hw⟩
    rw [hx, show (⟨#[13, 10]⟩ : ByteArray).data.toList = [13, 10] from rfl, cut_line s i e h h1 h2]
theorem cutOpen_calls (s : ByteArray) (i : Nat) (m : Int) (w : World) (hs : s.size ≤ 1048576) (hm : w.cell? ⟨0, 0, none⟩ = some (.int .i64 m)) (h : lineV s i = -1) :
    Calls Tryd.prog 64 #[.string (s.extract i s.size), .string ⟨#[13, 10]⟩] w fun x w' => x = .returned (.tuple #[.string (s.extract i s.size), .string ⟨#[]⟩, .bool false]) ∧ ∃ n, w' = w.drewN n :=
  (Tryd.strings_Cut (s.extract i s.size) ⟨#[13, 10]⟩ m w (by rw [ext_size (Nat.le_refl _)]; omega) hm).mono fun x w' hh => by
    obtain ⟨hx, hw⟩ := hh
    refine ⟨?_, hw⟩
    rw [hx, show (⟨#[13, 10]⟩ : ByteArray).data.toList = [13, 10] from rfl, cut_open_line s i h]
theorem cutColon_calls (l : ByteArray) (m : Int) (w : World) (hs : l.size ≤ 1048576) (hm : w.cell? ⟨0, 0, none⟩ = some (.int .i64 m)) (h : spanEnd notColon l 0 < l.size) :
    Calls Tryd.prog 64 #[.string l, .string ⟨#[58]⟩] w fun x w' => x = .returned (.tuple #[.string (l.extract 0 (spanEnd notColon l 0)), .string (l.extract (spanEnd notColon l 0 + 1) l.size), .bool true]) ∧ ∃ n, w' = w.drewN n :=
  (Tryd.strings_Cut l ⟨#[58]⟩ m w (by omega) hm).mono fun x w' hh => by
    obtain ⟨hx, hw⟩ := hh
    refine ⟨?_, hw⟩
    rw [hx, show (⟨#[58]⟩ : ByteArray).data.toList = [58] from rfl, cut_colon_yes l h]
theorem cutNone_calls (l : ByteArray) (m : Int) (w : World) (hs : l.size ≤ 1048576) (hm : w.cell? ⟨0, 0, none⟩ = some (.int .i64 m)) (h : ¬ spanEnd notColon l 0 < l.size) :
    Calls Tryd.prog 64 #[.string l, .string ⟨#[58]⟩] w fun x w' => x = .returned (.tuple #[.string l, .string ⟨#[]⟩, .bool false]) ∧ ∃ n, w' = w.drewN n :=
  (Tryd.strings_Cut l ⟨#[58]⟩ m w (by omega) hm).mono fun x w' hh => by
    obtain ⟨hx, hw⟩ := hh
    refine ⟨?_, hw⟩
    rw [hx, show (⟨#[58]⟩ : ByteArray).data.toList = [58] from rfl, cut_colon_no l h]
end Go.Proofs.YtpeenmbonhijmaaDoor.H
