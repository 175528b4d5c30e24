/- Joined tokens: the reference's tokenText: the walk. -/
import Derived.Test.YtpeenmbonhijmaaDoorJoinC
import Derived.Test.YtpeenmbonhijmaaDoorNums
namespace Go.Proofs.YtpeenmbonhijmaaDoor.H
open Go.RowKit Go.Proofs.YtpeenmbonhijmaaDoorW.PrintWords Go.Proofs.YtpeenmbonhijmaaDoorW.PrintLast Go.Proofs.YtpeenmbonhijmaaDoorW.PrintMore Go.Proofs.YtpeenmbonhijmaaDoor.U
set_option linter.unusedVariables false
set_option linter.unusedSimpArgs false
theorem escL_take_le (s : List UInt8) (k : Nat) : (escL (s.take k)).length ≤ 2 * k := by
  have := escL_le (s.take k)
  have h2 : (s.take k).length ≤ k := List.length_take_le _ _
  omega
set_option maxHeartbeats 4000000 in
set_option maxRecDepth 100000 in
theorem tokenText_calls (k : Int) (s : ByteArray) (n : Int) (w : World) (hs : s.size ≤ 1048576) (hn : k = 3 → 0 ≤ n ∧ n ≤ 2147483647) :
    Calls Tryd.prog 89 #[.agg #[.int .i64 k, .string s, .int .i64 n]] w fun e w' => e = .returned (.string (tokT k s n)) ∧ Below w.heap.size w w' := by
  rcases (by omega : k = 3 ∨ k = 2 ∨ k = 4 ∨ (k ≠ 3 ∧ k ≠ 2 ∧ k ≠ 4)) with rfl | rfl | rfl | ⟨k3, k2, k4⟩
  · obtain ⟨n0, n1⟩ := hn rfl
    clear hn
    rw [show tokT 3 s n = decT n.toNat from rfl]
    obtain ⟨q, rfl⟩ : ∃ q : Nat, n = q := ⟨n.toNat, by omega⟩
    rw [Int.toNat_natCast]
    have HD := fun W => dec_calls q W (by omega)
    generalize decT q = d at *
    have HD := Lib.hid HD
    go_enter Tryd.func89, Tryd.ntmps89
    go_wp2_with fail
    refine (HD.out _).mono ?_
    rintro e w1 ⟨rfl, hb1⟩
    go_wp2_with fail
    go_ret
    exact ⟨rfl, (by repeat (first | exact Below.refl _ _ | apply below_alloc | apply pw_below_drewN | apply below_drew1 | (refine Below.setCell ?_ (by first | (simp; done) | (simp; omega) | omega) _) | (refine below_then ?_ (by first | (simp; done) | (simp; omega) | omega) hb1)))⟩
  · clear hn
    rw [show tokT 2 s n = (⟨#[58]⟩ : ByteArray) ++ s from rfl]
    have d1 : (1 : Int) + s.size ≤ 9223372036854775807 := by omega
    go_enter Tryd.func89, Tryd.ntmps89
    go_wp2_with fail
    go_ret
    exact ⟨(by first | rfl | (simp; done) | (simp [*]; done) | (rw [if_pos (by omega)]; first | rfl | (simp; done)) | (rw [if_neg (by omega)]; first | rfl | (simp; done)) | (simp; omega)), (by repeat (first | exact Below.refl _ _ | apply below_alloc | apply pw_below_drewN | apply below_drew1 | (refine Below.setCell ?_ (by first | (simp; done) | (simp; omega) | omega) _) ))⟩
  · clear hn
    have hfin : (⟨#[34]⟩ : ByteArray) ++ ⟨(escL s.data.toList).toArray⟩ ++ (⟨#[34]⟩ : ByteArray) = tokT 4 s n := by
      rw [show tokT 4 s n = quoteT s from rfl, quoteT]
      apply bytes_iff.1
      rw [ByteArray.data_append, ByteArray.data_append, Array.toList_append, Array.toList_append]
    generalize tokT 4 s n = r at *
    have hfin := Lib.hid hfin
    have hsn := fun k h => esc_snoc s.data.toList k h
    have htl := fun k => escL_take_le s.data.toList k
    have hall : s.data.toList.take s.size = s.data.toList := List.take_of_length_le (by simp)
    have hslen : s.data.toList.length = s.size := by simp
    have HX := Lib.hid (And.intro hsn (And.intro htl (And.intro hall hslen)))
    clear hsn htl hall hslen
    go_enter Tryd.func89, Tryd.ntmps89
    go_wp2_with fail
    go_loopw [3, 4] (fun v i wr => ∃ k : Nat, k ≤ s.size ∧ i = .int .i64 k ∧ Kd.R (Kd.int .u8) 5 wr (w.heap.size + 1) (fun _ => True) v (numsOf (escL (s.data.toList.take k))) ∧ Below (w.heap.size + 1) (w.alloc (.cells #[.int .i64 4, .string s, .int .i64 n] 124)) wr) (fun _ i _ => s.size - (intOf i).toNat)
    case atStart => exact ⟨0, Nat.zero_le _, rfl, Kd.R_nil _ _ _ _ _, Below.refl _ _⟩
    case round =>
      obtain ⟨k, hk, rfl, hRow, hB⟩ := hrel
      have m0 := cell_below hB (show (w.alloc (.cells #[.int .i64 4, .string s, .int .i64 n] 124)).cell? ⟨w.heap.size, 1, none⟩ = some (.string s) by simp) (by omega)
      have hz := hB.size
      simp at hz
      have hBw : Below w.heap.size w wr := Below.trans (by repeat (first | exact Below.refl _ _ | apply below_alloc | apply pw_below_drewN | apply below_drew1 | (refine Below.setCell ?_ (by first | (simp; done) | (simp; omega) | omega) _) )) (Below.mono hB (by omega))
      have hl := HX.out.2.1 k
      rw [← numsOf_len] at hl
      by_cases hlt : k < s.size
      · have b0 := s[k].toNat_lt
        have i0 : (0 : Int) ≤ (k : Int) := by omega
        have i1 : (k : Int) < (s.size : Int) := by omega
        have hs1 := HX.out.1 k (by rw [HX.out.2.2.2]; exact hlt)
        rw [show s.data.toList[k]'(by rw [HX.out.2.2.2]; exact hlt) = s[k] by rw [Array.getElem_toList]; rfl] at hs1
        have hnext : numsOf (escL (s.data.toList.take (k + 1))) = numsOf (escL (s.data.toList.take k)) ++ (if s[k] = 34 ∨ s[k] = 92 then [92, (s[k].toNat : Int)] else [(s[k].toNat : Int)]) := by
          rw [hs1, numsOf_cat]
          congr 1
          split <;> rfl
        clear hs1
        generalize numsOf (escL (s.data.toList.take k)) = acc at *
        obtain ⟨A0, c0, rfl⟩ := Kd.R_slice hRow
        have hlen1 : (acc ++ [(92 : Int)]).length = acc.length + 1 := by simp
        by_cases hesc : s[k] = 34 ∨ s[k] = 92
        · rw [if_pos hesc] at hnext
          have hnext := Lib.hid hnext
          rcases hesc with he | he
          · have e1 : ((s[k].toNat : Int) == 34) = true := by rw [he]; rfl
            clear he
            go_wp2_with (first
              | (at_builtin; refine snoc_list rowU8 (w.heap.size + 1) rfl _ _ rfl (.slice A0 acc.length c0) acc (92 : Int) [.int .u8 92] rfl (by simp [Act.eval]) rfl hRow (by omega) (by omega) ?_; intro v1 w3 hR1 hb3 hg3; obtain ⟨A1, c1, rfl⟩ := Kd.R_slice hR1; rw [hlen1] at hR1; have m3 := cell_below hb3 m0 (by omega); have hz3 := hb3.size)
              | (at_builtin; refine snoc_list rowU8 (w.heap.size + 1) rfl _ _ rfl (.slice A1 (acc.length + 1) c1) (acc ++ [92]) (s[k].toNat : Int) [.int .u8 s[k].toNat] rfl (by simp [Act.eval]) rfl hR1 (by omega) (by omega) ?_; intro v2 w4 hR2 hb4 hg4))
            go_roundw
            case rel => exact ⟨k + 1, hlt, by go_num, by rw [hnext.out]; simpa using hR2, (hB.trans hb3).trans hb4⟩
            case measure => simp [intOf]; omega
          · have e1 : ((s[k].toNat : Int) == 34) = false := by rw [he]; rfl
            have e2 : ((s[k].toNat : Int) == 92) = true := by rw [he]; rfl
            clear he
            go_wp2_with (first
              | (at_builtin; refine snoc_list rowU8 (w.heap.size + 1) rfl _ _ rfl (.slice A0 acc.length c0) acc (92 : Int) [.int .u8 92] rfl (by simp [Act.eval]) rfl hRow (by omega) (by omega) ?_; intro v1 w3 hR1 hb3 hg3; obtain ⟨A1, c1, rfl⟩ := Kd.R_slice hR1; rw [hlen1] at hR1; have m3 := cell_below hb3 m0 (by omega); have hz3 := hb3.size)
              | (at_builtin; refine snoc_list rowU8 (w.heap.size + 1) rfl _ _ rfl (.slice A1 (acc.length + 1) c1) (acc ++ [92]) (s[k].toNat : Int) [.int .u8 s[k].toNat] rfl (by simp [Act.eval]) rfl hR1 (by omega) (by omega) ?_; intro v2 w4 hR2 hb4 hg4))
            go_roundw
            case rel => exact ⟨k + 1, hlt, by go_num, by rw [hnext.out]; simpa using hR2, (hB.trans hb3).trans hb4⟩
            case measure => simp [intOf]; omega
        · rw [if_neg hesc] at hnext
          have hnext := Lib.hid hnext
          have e1 : ((s[k].toNat : Int) == 34) = false := by
            rw [beq_eq_false_iff_ne]
            exact fun h => hesc (.inl (UInt8.toNat_inj.1 (by exact_mod_cast h)))
          have e2 : ((s[k].toNat : Int) == 92) = false := by
            rw [beq_eq_false_iff_ne]
            exact fun h => hesc (.inr (UInt8.toNat_inj.1 (by exact_mod_cast h)))
          clear hesc
          go_wp2_with (at_builtin; refine snoc_list rowU8 (w.heap.size + 1) rfl _ _ rfl (.slice A0 acc.length c0) acc (s[k].toNat : Int) [.int .u8 s[k].toNat] rfl (by simp [Act.eval]) rfl hRow (by omega) (by omega) ?_; intro v1 w3 hR1 hb3 hg3)
          go_roundw
          case rel => exact ⟨k + 1, hlt, by go_num, by rw [hnext.out]; exact hR1, hB.trans hb3⟩
          case measure => simp [intOf]; omega
      · obtain rfl : k = s.size := by omega
        rw [HX.out.2.2.1] at hRow hl
        have hez : (⟨(escL s.data.toList).toArray⟩ : ByteArray).size ≤ 4000000 := by
          have := escL_le s.data.toList
          rw [HX.out.2.2.2] at this
          show (List.toArray _).size ≤ _
          rw [List.size_toArray]; omega
        have hst := str_numsOf (escL s.data.toList)
        generalize (⟨(escL s.data.toList).toArray⟩ : ByteArray) = es at *
        generalize numsOf (escL s.data.toList) = acc at *
        obtain ⟨A0, c0, rfl⟩ := Kd.R_slice hRow
        have hcv := Kd.C_string (P := Tryd.prog) (src := 120) (dst := 9) (c := c0) Tryd.underlying120 Tryd.underlying5 Tryd.underlying9 (C_ofR hRow)
        rw [hst] at hcv
        clear hst
        have d1 : (1 : Int) + es.size ≤ 9223372036854775807 := by omega
        have d2 : (1 : Int) + es.size + 1 ≤ 9223372036854775807 := by omega
        go_wp2_with fail
        go_ret
        exact ⟨by simp [hfin.out], hBw⟩
  · clear hn
    rw [show tokT k s n = s by rw [tokT, if_neg k3, if_neg k2, if_neg k4]]
    go_enter Tryd.func89, Tryd.ntmps89
    go_wp2_with fail
    go_ret
    exact ⟨rfl, (by repeat (first | exact Below.refl _ _ | apply below_alloc | apply pw_below_drewN | apply below_drew1 | (refine Below.setCell ?_ (by first | (simp; done) | (simp; omega) | omega) _) ))⟩
end Go.Proofs.YtpeenmbonhijmaaDoor.H
