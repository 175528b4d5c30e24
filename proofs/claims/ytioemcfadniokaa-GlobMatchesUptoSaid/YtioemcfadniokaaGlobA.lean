/- The walks of the functions that fold letters. -/
import Derived.Test.YtioemcfadniokaaBase
import Derived.Lib.ConvBytes
namespace Go.Proofs.Ytioemcfadniokaa.H
open Go.RowKit Go.Proofs.YtioemcfadniokaaW.PrintWords Go.Proofs.YtioemcfadniokaaW.PrintLast Go.Proofs.YtioemcfadniokaaW.PrintMore Go.Proofs.Ytioemcfadniokaa.U
set_option linter.unusedVariables false
set_option linter.unusedSimpArgs false
def sm (a : Int) : Int := if 65 ≤ a ∧ a ≤ 90 then a + 32 else a
theorem sm_range {a : Int} (h0 : 0 ≤ a) (h1 : a ≤ 255) : 0 ≤ sm a ∧ sm a ≤ 255 := by unfold sm; split <;> omega
/-- The small letters of a text. -/
def lowS (s : ByteArray) : ByteArray := strOfNums ((bytesOf s).map sm)
theorem bytesOf_get (s : ByteArray) (k : Nat) (h : k < s.size) : (bytesOf s)[k]? = some (s[k].toNat : Int) := by
  simp [bytesOf, h]
  rfl
theorem rd_bytes (s : ByteArray) (k : Nat) : 0 ≤ rd (bytesOf s) (k : Int) ∧ rd (bytesOf s) (k : Int) ≤ 255 := by
  rw [rd, Int.toNat_natCast, List.getD_eq_getElem?_getD]
  rcases Nat.lt_or_ge k s.size with h | h
  · rw [bytesOf_get s k h]; have := s[k].toNat_lt; simp; omega
  · rw [List.getElem?_eq_none (by rw [bytesOf_length]; exact h)]; simp
theorem bytesOf_rd (s : ByteArray) (k : Nat) (h : k < s.size) : rd (bytesOf s) (k : Int) = ((s.data.toList.getD k 0).toNat : Int) := by
  rw [rd, Int.toNat_natCast, List.getD_eq_getElem?_getD, bytesOf_get s k h]
  simp [List.getD_eq_getElem?_getD, h]
  rfl
theorem bytesWorld_below (w : World) (e : Nat) (s : ByteArray) : Below w.heap.size w (Lib.bytesWorld w e s) :=
  ⟨rfl, rfl, rfl, by rw [Lib.bytesWorld_size]; omega, fun i hi => Lib.bytesWorld_at_old w e s i hi⟩
theorem small_calls (a : Int) (w : World) (h0 : 0 ≤ a) (h1 : a ≤ 255) : Calls Try.prog 52 #[.int .u8 a] w fun e w' => e = .returned (.int .u8 (sm a)) ∧ w = w' := by
  rcases (by omega : a < 65 ∨ (65 ≤ a ∧ a ≤ 90) ∨ 90 < a) with h | ⟨h, h2⟩ | h
  all_goals
    go_enter Try.func52, Try.ntmps52
    go_wp2
    go_ret
    exact ⟨by simp [sm]; omega, rfl⟩
set_option maxHeartbeats 1000000 in
set_option maxRecDepth 100000 in
theorem lower_calls (s : ByteArray) (w : World) (hs : s.size ≤ 140737488351232) : Calls Try.prog 34 #[.string s] w fun e w' => e = .returned (.string (lowS s)) ∧ Below w.heap.size w w' := by
  have hlen := bytesOf_length s
  go_enter Try.func34, Try.ntmps34
  go_wp2
  go_loopw [3, 4] (fun v i wr => ∃ k : Nat, k ≤ s.size ∧ i = .int .i64 k ∧ Kd.R (Kd.int .u8) 5 wr w.heap.size (fun _ => True) v (((bytesOf s).take k).map sm) ∧ Below w.heap.size w wr) (fun _ i _ => s.size - (intOf i).toNat)
  case atStart => exact ⟨0, Nat.zero_le _, rfl, by simpa using Kd.R_nil _ _ _ _ _, Below.refl _ _⟩
  case round =>
    obtain ⟨k, hk, rfl, hR, hB⟩ := hrel
    by_cases hlt : k < s.size
    · have hg := bytesOf_get s k hlt
      have hsz : (((bytesOf s).take k).map sm).length ≤ k := by simp; omega
      have hts : ((bytesOf s).take (k + 1)).map sm = ((bytesOf s).take k).map sm ++ [sm (s[k].toNat : Int)] := by
        rw [List.take_add_one, hg]; simp
      have HT := Lib.hid hts
      clear hts hg
      have b0 := (s[k]).toNat_lt
      by_cases hq : 65 ≤ s[k].toNat ∧ s[k].toNat ≤ 90
      · obtain ⟨q1, q2⟩ := hq
        have hsm : sm (s[k].toNat : Int) = (s[k].toNat : Int) + 32 := by unfold sm; rw [if_pos (by omega)]
        rw [hsm] at HT
        clear hsm
        go_wp2_with (first | (go_at_call 32; first | (refine (in_yes _ _ _ _ (by omega) (by omega)).mono ?_; rintro e w' ⟨rfl, rfl⟩) | (refine (in_no _ _ _ _ (by omega)).mono ?_; rintro e w' ⟨rfl, rfl⟩)) | (at_builtin; refine snoc_list rowU8 w.heap.size rfl _ _ rfl u3 (((bytesOf s).take k).map sm) ((s[k].toNat : Int) + 32) [.int .u8 ((s[k].toNat : Int) + 32)] rfl rfl rfl hR hB.size (by omega) ?_; intro v1 w1 hR1 hb1 hg1))
        go_roundw
        case rel => exact ⟨k + 1, by omega, by go_num, by rw [HT.out]; exact hR1, hB.trans hb1⟩
        case measure => simp [intOf]; omega
      · have hsm : sm (s[k].toNat : Int) = (s[k].toNat : Int) := by unfold sm; rw [if_neg (by omega)]
        rw [hsm] at HT
        clear hsm
        go_wp2_with (first | (go_at_call 32; first | (refine (in_yes _ _ _ _ (by omega) (by omega)).mono ?_; rintro e w' ⟨rfl, rfl⟩) | (refine (in_no _ _ _ _ (by omega)).mono ?_; rintro e w' ⟨rfl, rfl⟩)) | (at_builtin; refine snoc_list rowU8 w.heap.size rfl _ _ rfl u3 (((bytesOf s).take k).map sm) (s[k].toNat : Int) [.int .u8 (s[k].toNat : Int)] rfl rfl rfl hR hB.size (by omega) ?_; intro v1 w1 hR1 hb1 hg1))
        go_roundw
        case rel => exact ⟨k + 1, by omega, by go_num, by rw [HT.out]; exact hR1, hB.trans hb1⟩
        case measure => simp [intOf]; omega
    · obtain rfl : k = s.size := by omega
      rw [List.take_of_length_le (by omega)] at hR
      obtain ⟨A1, c1, rfl, hl1, hr1⟩ := C_of hR
      have hcv := Kd.C_string (P := Try.prog) (src := 30) (dst := 9) (c := c1) Try.underlying30 Try.underlying5 Try.underlying9 hr1
      simp only [List.length_map, hlen] at hcv
      go_wp2
      go_ret
      exact ⟨rfl, hB⟩
set_option maxHeartbeats 1000000 in
set_option maxRecDepth 100000 in
theorem fold_calls (s : ByteArray) (w : World) (hs : s.size ≤ 140737488351232) : Calls Try.prog 33 #[.string s] w fun e w' => e = .returned (.string (lowS s)) ∧ Below w.heap.size w w' := by
  have hlen := bytesOf_length s
  have hcv := fun W => Lib.run_convert_string_bytes (P := Try.prog) W 9 30 5 s Try.underlying9 Try.underlying30 Try.underlying5
  go_enter Try.func33, Try.ntmps33
  go_wp2
  have hb0 : Below w.heap.size w (Lib.bytesWorld w 5 s) := bytesWorld_below w _ s
  go_loopw [10] (fun i wr => ∃ k : Nat, k ≤ s.size ∧ i = .int .i64 k ∧ Below w.heap.size w wr ∧ (∀ j, j < s.size → wr.frozen? ⟨w.heap.size, j, none⟩ = false) ∧ ∀ j, j < s.size → wr.cell? ⟨w.heap.size, j, none⟩ = some (.int .u8 (if j < k then sm (rd (bytesOf s) j) else rd (bytesOf s) j))) (fun i _ => s.size - (intOf i).toNat)
  case atStart => exact ⟨0, Nat.zero_le _, rfl, hb0, fun j hj => by simp [World.frozen?, Lib.bytesWorld_at_new, Lib.bytesCells]; omega, fun j hj => by rw [Lib.bytesWorld_cell w _ s j hj, if_neg (Nat.not_lt_zero _), bytesOf_rd s j hj]⟩
  case round =>
    obtain ⟨k, hk, rfl, hB, hH, hc⟩ := hrel
    by_cases hlt : k < s.size
    · have hck := hc k hlt
      rw [if_neg (Nat.lt_irrefl k)] at hck
      have hfz : wr.frozen? ⟨w.heap.size, k, none⟩ = false := hH k hlt
      have b0 := rd_bytes s k
      have HC := Lib.hid hc
      have HH := Lib.hid hH
      clear hc hH
      generalize hx : rd (bytesOf s) (k : Int) = x at hck b0
      have HX := Lib.hid hx
      clear hx
      go_wp2_with (go_at_call 52; refine (small_calls _ _ b0.1 b0.2).mono ?_; rintro e w' ⟨rfl, rfl⟩)
      go_roundw
      case rel =>
        refine ⟨k + 1, by omega, by go_num, hB.setCell (p := ⟨w.heap.size, k, none⟩) (Nat.le_refl _) _, fun j hj => by rw [World.frozen?_setCell]; exact HH.out j hj, fun j hj => ?_⟩
        by_cases hjk : j = k
        · subst hjk
          rw [World.cell?_setCell_same' _ _ _ (by rw [hck]; rfl), if_pos (Nat.lt_succ_self _), HX.out]
        · rw [World.cell?_setCell_other _ _ _ _ (by intro h; injection h with _ h; exact hjk h.symm), HC.out j hj]
          by_cases hlt2 : j < k
          · rw [if_pos hlt2, if_pos (by omega)]
          · rw [if_neg hlt2, if_neg (by omega)]
      case measure => simp [intOf]; omega
    · obtain rfl : k = s.size := by omega
      have hr1 : (Kd.int .u8).C wr (some ⟨w.heap.size, 0, none⟩) ((bytesOf s).map sm).length ((bytesOf s).map sm) := by
        refine ⟨rfl, by rw [List.length_map, hlen]; omega, fun _ => ⟨_, rfl, fun j p hj => ?_⟩⟩
        have hjl : j < s.size := by
          rcases Nat.lt_or_ge j s.size with h | h
          · exact h
          · rw [List.getElem?_eq_none (by rw [List.length_map, hlen]; exact h)] at hj; cases hj
        refine ⟨[.int .u8 p], rfl, rfl, fun i u hi => ?_⟩
        match i, hi with
        | 0, hi =>
          obtain rfl : Value.int .u8 p = u := by simpa using hi
          have h1 := hc j hjl
          rw [if_pos hjl] at h1
          rw [List.getElem?_map, bytesOf_get s j hjl] at hj
          obtain rfl : sm (s[j].toNat : Int) = p := by simpa using hj
          have h2 : rd (bytesOf s) (j : Int) = (s[j].toNat : Int) := by rw [rd, Int.toNat_natCast, List.getD_eq_getElem?_getD, bytesOf_get s j hjl]; rfl
          rw [h2] at h1
          have h3 : (⟨w.heap.size, 0, none⟩ : Addr).add (j * (Kd.int .u8).sz + 0) = ⟨w.heap.size, j, none⟩ := by rw [add_plain]; exact congrArg (fun x => (⟨w.heap.size, x, none⟩ : Addr)) (Nat.mul_one j)
          rw [h3]; exact h1
        | i + 1, hi => simp at hi
      have hcv := Kd.C_string (P := Try.prog) (src := 30) (dst := 9) (c := grownCap w s.size 0 5) Try.underlying30 Try.underlying5 Try.underlying9 hr1
      simp only [List.length_map, hlen] at hcv
      clear hc hH
      go_wp2
      go_ret
      exact ⟨rfl, hB⟩
def foldR (s : ByteArray) : ByteArray := if s.size ≤ 2000 then lowS s else ⟨#[]⟩
def foldE (s : ByteArray) : Int := if s.size ≤ 2000 then 0 else 1
theorem Fold_calls (s : ByteArray) (w : World) (hs : s.size ≤ 140737488351232) : Calls Try.prog 14 #[.string s] w fun e w' => e = .returned (.tuple #[.string (foldR s), .int .i64 (foldE s)]) ∧ Below w.heap.size w w' := by
  by_cases h : s.size ≤ 2000
  · rw [foldR, foldE, if_pos h, if_pos h]
    go_enter Try.func14, Try.ntmps14
    go_wp2_with fail
    refine (fold_calls s _ hs).mono ?_
    rintro e w1 ⟨rfl, hb1⟩
    go_wp2_with fail
    go_ret2
    exact ⟨rfl, hb1⟩
  · rw [foldR, foldE, if_neg h, if_neg h]
    go_enter Try.func14, Try.ntmps14
    go_wp2_with fail
    go_ret2
    exact ⟨rfl, Below.refl _ _⟩
theorem FoldOf_calls (s : ByteArray) (w : World) (hs : s.size ≤ 140737488351232) : Calls Try.prog 15 #[.string s] w fun e w' => e = .returned (.tuple #[.string (foldR s), .int .i64 (foldE s)]) ∧ Below w.heap.size w w' := by
  by_cases h : s.size ≤ 2000
  · rw [foldR, foldE, if_pos h, if_pos h]
    go_enter Try.func15, Try.ntmps15
    go_wp2_with fail
    refine (lower_calls s _ hs).mono ?_
    rintro e w1 ⟨rfl, hb1⟩
    go_wp2_with fail
    go_ret2
    exact ⟨rfl, hb1⟩
  · rw [foldR, foldE, if_neg h, if_neg h]
    go_enter Try.func15, Try.ntmps15
    go_wp2_with fail
    go_ret2
    exact ⟨rfl, Below.refl _ _⟩
end Go.Proofs.Ytioemcfadniokaa.H
