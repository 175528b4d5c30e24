/- who.Check and the reference's AddressFault: the walks. -/
import Derived.Test.YtijdghplfhfpaaaDoorCur
import Derived.Test.YtijdghplfhfpaaaDoorWhoP
import Derived.Test.YtijdghplfhfpaaaDoorShelf
import Derived.Deep.QuietTactic
import Derived.BigQuiet
namespace Go.Proofs.YtijdghplfhfpaaaDoor.H
open Go.RowKit Go.Proofs.YtijdghplfhfpaaaDoorW.PrintWords Go.Proofs.YtijdghplfhfpaaaDoorW.PrintLast Go.Proofs.YtijdghplfhfpaaaDoorW.PrintMore Go.Proofs.YtijdghplfhfpaaaDoor.U
set_option linter.unusedVariables false
set_option linter.unusedSimpArgs false
def markBytes : List UInt8 := [33, 35, 36, 37, 38, 39, 42, 43, 45, 47, 61, 63, 94, 95, 123, 124, 125, 126, 96]
theorem marks_index (c : Int) (h0 : 0 ≤ c) (h1 : c ≤ 255) : (0 ≤ Lib.indexByte [33, 35, 36, 37, 38, 39, 42, 43, 45, 47, 61, 63, 94, 95, 123, 124, 125, 126, 96] c.toNat.toUInt8) ↔ markList.contains c = true := by
  have h : ∀ x : Fin 256, decide (0 ≤ Lib.indexByte [33, 35, 36, 37, 38, 39, 42, 43, 45, 47, 61, 63, 94, 95, 123, 124, 125, 126, 96] x.val.toUInt8) = markList.contains (x.val : Int) := by decide +kernel
  have := h ⟨c.toNat, by omega⟩
  have e : ((c.toNat : Nat) : Int) = c := by omega
  simp only [e] at this
  rw [← this, decide_eq_true_eq]
theorem alnum_cases (c : Int) : (alnumB c = true ∧ ((97 ≤ c ∧ c ≤ 122) ∨ (65 ≤ c ∧ c ≤ 90) ∨ (48 ≤ c ∧ c ≤ 57))) ∨ (alnumB c = false ∧ (c < 48 ∨ (57 < c ∧ c < 65) ∨ (90 < c ∧ c < 97) ∨ 122 < c)) := by
  rcases (by omega : (97 ≤ c ∧ c ≤ 122) ∨ (65 ≤ c ∧ c ≤ 90) ∨ (48 ≤ c ∧ c ≤ 57) ∨ (c < 48 ∨ (57 < c ∧ c < 65) ∨ (90 < c ∧ c < 97) ∨ 122 < c)) with h | h | h | h
  · exact .inl ⟨by simp [alnumB, h], .inl h⟩
  · exact .inl ⟨by simp [alnumB, h], .inr (.inl h)⟩
  · exact .inl ⟨by simp [alnumB, h], .inr (.inr h)⟩
  · exact .inr ⟨by simp [alnumB]; omega, h⟩
set_option maxHeartbeats 1000000 in
set_option maxRecDepth 100000 in
theorem atom_calls (c : Int) (w : World) (h0 : 0 ≤ c) (h1 : c ≤ 255) : Calls Tryd.prog 192 #[.int .u8 c] w fun e w' => e = .returned (.bool (atomB c)) ∧ w = w' := by
  have HI := fun w => Tryd.strings_IndexByte ⟨#[33, 35, 36, 37, 38, 39, 42, 43, 45, 47, 61, 63, 94, 95, 123, 124, 125, 126, 96]⟩ c w
  have hm := marks_index c h0 h1
  have hb : (⟨#[33, 35, 36, 37, 38, 39, 42, 43, 45, 47, 61, 63, 94, 95, 123, 124, 125, 126, 96]⟩ : ByteArray).data.toList = [33, 35, 36, 37, 38, 39, 42, 43, 45, 47, 61, 63, 94, 95, 123, 124, 125, 126, 96] := rfl
  rw [hb] at HI
  generalize Lib.indexByte [33, 35, 36, 37, 38, 39, 42, 43, 45, 47, 61, 63, 94, 95, 123, 124, 125, 126, 96] c.toNat.toUInt8 = j at HI hm
  have HI := Lib.hid HI
  clear hb
  rcases alnum_cases c with ⟨e, h⟩ | ⟨e, h⟩
  · rw [show atomB c = true by rw [atomB, e]; rfl]
    clear e hm
    rcases h with h | h | h
    all_goals
      go_enter Tryd.func192, Tryd.ntmps192
      go_wp2
      go_ret
      exact ⟨(by first | rfl | (simp; done) | (simp [*]; done) | (rw [if_pos (by omega)]; first | rfl | (simp; done)) | (rw [if_neg (by omega)]; first | rfl | (simp; done)) | (simp; omega)), rfl⟩
  · cases hc : markList.contains c with
    | true =>
      rw [show atomB c = true by rw [atomB, e, hc]; rfl]
      have hj := hm.2 hc
      clear e hc hm
      rcases h with h | h | h | h
      all_goals
        go_enter Tryd.func192, Tryd.ntmps192
        go_wp2_with (go_at_call 205; refine (HI.out _).mono ?_; rintro e w2 ⟨rfl, rfl⟩)
        go_ret
        exact ⟨(by first | rfl | (simp; done) | (simp [*]; done) | (rw [if_pos (by omega)]; first | rfl | (simp; done)) | (rw [if_neg (by omega)]; first | rfl | (simp; done)) | (simp; omega)), rfl⟩
    | false =>
      rw [show atomB c = false by rw [atomB, e, hc]; rfl]
      have hj : ¬ 0 ≤ j := fun h => by rw [hm.1 h] at hc; cases hc
      clear e hc hm
      rcases h with h | h | h | h
      all_goals
        go_enter Tryd.func192, Tryd.ntmps192
        go_wp2_with (go_at_call 205; refine (HI.out _).mono ?_; rintro e w2 ⟨rfl, rfl⟩)
        go_ret
        exact ⟨(by first | rfl | (simp; done) | (simp [*]; done) | (rw [if_pos (by omega)]; first | rfl | (simp; done)) | (rw [if_neg (by omega)]; first | rfl | (simp; done)) | (simp; omega)), rfl⟩
/-- A literal row of numbers. -/
theorem lit_ints (k : IntKind) (l : List Int) (w : World) (e : Nat) (h63 : l.length ≤ 9223372036854775807) : Kd.C (Kd.int k) (w.alloc (.cells (l.map fun x => Value.int k x).toArray e)) (some ⟨w.heap.size, 0, none⟩) l.length l := by
  refine ⟨rfl, h63, fun _ => ⟨_, rfl, fun j x hj => ⟨[.int k x], rfl, rfl, fun i u hi => ?_⟩⟩⟩
  match i, hi with
  | 0, hi =>
    obtain rfl : Value.int k x = u := by simpa using hi
    rw [show j * (Kd.int k).sz + 0 = j from Nat.mul_one j, Go.WideShapes.add_plain, Nat.zero_add]
    simp [hj]
  | i + 1, hi => simp at hi
set_option maxHeartbeats 1000000 in
set_option maxRecDepth 100000 in
theorem atomByte_calls (c : Int) (w : World) (h0 : 0 ≤ c) (h1 : c ≤ 255) : Calls Tryd.prog 189 #[.int .u8 c] w fun e w' => e = .returned (.bool (atomB c)) ∧ Below w.heap.size w w' := by
  rcases alnum_cases c with ⟨e, h⟩ | ⟨e, h⟩
  · rw [show atomB c = true by rw [atomB, e]; rfl]
    clear e
    rcases h with h | h | h
    all_goals
      go_enter Tryd.func189, Tryd.ntmps189
      go_wp2_with (go_at_call 52; first | (refine (in_yes _ _ _ _ (by omega) (by omega)).mono ?_; rintro e w' ⟨rfl, rfl⟩) | (refine (in_no _ _ _ _ (by omega)).mono ?_; rintro e w' ⟨rfl, rfl⟩))
      go_ret
      exact ⟨(by first | rfl | (simp; done) | (simp [*]; done) | (rw [if_pos (by omega)]; first | rfl | (simp; done)) | (rw [if_neg (by omega)]; first | rfl | (simp; done)) | (simp; omega)), (by repeat (first | exact Below.refl _ _ | apply below_alloc | apply pw_below_drewN | apply below_drew1 | (refine Below.setCell ?_ (by first | (simp; done) | (simp; omega) | omega) _) ))⟩
  · rw [show atomB c = markList.contains c by rw [atomB, e]; rfl]
    clear e
    have hL := lit_ints .u8 markList w 5 (by decide)
    have hlen : markList.length = 19 := rfl
    have hmem : ∀ k : Nat, k < 19 → rd markList k = c → markList.contains c = true := fun k hk hc => by
      rw [← hc, rd, Int.toNat_natCast, List.getD_eq_getElem?_getD, List.getElem?_eq_getElem (by rw [hlen]; exact hk)]
      simp
    have hnot : (∀ k : Nat, k < 19 → rd markList k ≠ c) → markList.contains c = false := fun h => by
      rw [← Bool.not_eq_true]
      intro hc
      obtain ⟨i, hi, hx⟩ := List.mem_iff_getElem.1 (List.contains_iff_mem.1 hc)
      refine h i hi ?_
      rw [rd, Int.toNat_natCast, List.getD_eq_getElem?_getD, List.getElem?_eq_getElem hi]
      exact hx
    have H := Lib.hid (And.intro hL (And.intro hmem hnot))
    generalize markList.contains c = r at *
    clear hL hmem hnot
    rcases h with h | h | h | h
    all_goals
      go_enter Tryd.func189, Tryd.ntmps189
      go_wp2_with (go_at_call 52; first | (refine (in_yes _ _ _ _ (by omega) (by omega)).mono ?_; rintro e w' ⟨rfl, rfl⟩) | (refine (in_no _ _ _ _ (by omega)).mono ?_; rintro e w' ⟨rfl, rfl⟩))
      go_loopw [4] (fun i wr => ∃ k : Nat, k ≤ 19 ∧ i = .int .i64 k ∧ (∀ j, j < k → rd markList j ≠ c) ∧ Below (w.heap.size + 1) (w.alloc (.cells (markList.map fun x => Value.int .u8 x).toArray 5)) wr) (fun i _ => 19 - (intOf i).toNat)
      case atStart => exact ⟨0, Nat.zero_le _, rfl, fun j hj => absurd hj (Nat.not_lt_zero _), Below.refl _ _⟩
      case round =>
        obtain ⟨k, hk, rfl, hne, hB⟩ := hrel
        have hne := Lib.hid hne
        by_cases hlt : k < 19
        · have hC := Kd.C_below H.out.1 (by simpa using hB)
          obtain ⟨ad, e1, hx⟩ := int_at hC k (by rw [hlen]; exact hlt)
          obtain rfl := (Option.some.inj e1).symm
          rw [Go.WideShapes.add_plain, Nat.zero_add] at hx
          have i1 : (k : Int) < (19 : Int) := by omega
          have hm := H.out.2.1 k hlt
          have hs : rd markList k ≠ c → ∀ j, j < k + 1 → rd markList j ≠ c := fun h j hj => by
            rcases Nat.lt_or_ge j k with h' | h'
            · exact hne.out j h'
            · obtain rfl : j = k := by omega
              exact h
          have HS := Lib.hid (And.intro hm hs)
          clear hm hs hne H
          generalize rd markList k = v at *
          by_cases hv : v = c
          · subst hv
            have hr := HS.out.1 rfl
            subst hr
            go_wp2
            go_ret
            exact ⟨(by first | rfl | (simp; done) | (simp [*]; done) | (rw [if_pos (by omega)]; first | rfl | (simp; done)) | (rw [if_neg (by omega)]; first | rfl | (simp; done)) | (simp; omega)), (by repeat (first | exact Below.refl _ _ | apply below_alloc | apply pw_below_drewN | apply below_drew1 | (refine Below.setCell ?_ (by first | (simp; done) | (simp; omega) | omega) _) | (refine Below.trans ?_ (Below.mono hB (by first | (simp; done) | (simp; omega) | omega)))))⟩
          · have q : (v == c) = false := by simpa using hv
            go_wp2
            go_roundw
            case rel => exact ⟨k + 1, by omega, by go_num, HS.out.2 hv, hB⟩
            case measure => simp [intOf]; omega
        · obtain rfl : k = 19 := by omega
          have hr := H.out.2.2 hne.out
          subst hr
          go_wp2
          go_ret
          exact ⟨(by first | rfl | (simp; done) | (simp [*]; done) | (rw [if_pos (by omega)]; first | rfl | (simp; done)) | (rw [if_neg (by omega)]; first | rfl | (simp; done)) | (simp; omega)), (by repeat (first | exact Below.refl _ _ | apply below_alloc | apply pw_below_drewN | apply below_drew1 | (refine Below.setCell ?_ (by first | (simp; done) | (simp; omega) | omega) _) | (refine Below.trans ?_ (Below.mono hB (by first | (simp; done) | (simp; omega) | omega)))))⟩
end Go.Proofs.YtijdghplfhfpaaaDoor.H
