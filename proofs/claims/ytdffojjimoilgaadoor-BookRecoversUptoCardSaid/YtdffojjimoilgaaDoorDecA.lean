/- Batches read from bytes: the reader. -/
import Derived.Test.YtdffojjimoilgaaDoorBookA
import Derived.Test.YtdffojjimoilgaaDoorByteRow
namespace Go.Proofs.YtdffojjimoilgaaDoor.H
open Go.RowKit Go.Proofs.YtdffojjimoilgaaDoorW.PrintWords Go.Proofs.YtdffojjimoilgaaDoorW.PrintLast Go.Proofs.YtdffojjimoilgaaDoorW.PrintMore Go.Proofs.YtdffojjimoilgaaDoor.U
set_option linter.unusedVariables false
set_option linter.unusedSimpArgs false
/-- The reader in block b: where it stands in the bytes, whether they ended too early. -/
def Rdr (w wr : World) (b : Nat) (bs : List Int) (p : Nat) (sh : Bool) : Prop :=
  ∃ A c, Blk wr b [.slice A (bs.length - p) c, .bool sh] ∧ (Kd.int .u8).C w A (bs.length - p) (bs.drop p) ∧ bs.length - p ≤ c ∧ p ≤ bs.length
def foldN (l : List Int) : Int := l.foldl (fun n c => n * 256 + c) 0
def numS (bs : List Int) (st : Nat × Bool) (k : Nat) : Int × (Nat × Bool) :=
  if st.2 = true ∨ bs.length < st.1 + k then (0, (st.1, true)) else (foldN ((bs.drop st.1).take k), (st.1 + k, false))
set_option maxHeartbeats 1000000 in
set_option maxRecDepth 100000 in
theorem take_no (w wr : World) (b : Nat) (bs : List Int) (p : Nat) (sh : Bool) (k : Int) (h : Rdr w wr b bs p sh) (hl : bs.length ≤ 1048576) (hk : 0 ≤ k) (hno : sh = true ∨ ((bs.length - p : Nat) : Int) < k) :
    Calls Tryd.prog 50 #[.pointer (some ⟨b, 0, none⟩), .int .i64 k] wr fun e w' => e = .returned (.slice none 0 0) ∧ Rdr w w' b bs p true ∧ wr.grownBy w' (some b) := by
  obtain ⟨A, c, hblk, hC, hc, hp⟩ := h
  have m0 := hblk.at 0 _ rfl
  have m1 := hblk.at 1 _ rfl
  have f1 := hblk.free 1 _ rfl
  have hset := hblk.set 1 (.bool true) (by simp)
  generalize hn : bs.length - p = n at *
  cases sh with
  | true =>
    go_enter Tryd.func50, Tryd.ntmps50
    go_wp2_with fail
    go_ret
    exact ⟨rfl, ⟨A, c, by rw [hn]; exact hset, by rw [hn]; exact hC, by omega, hp⟩, grown_set (World.grownBy.refl _ _) _ _⟩
  | false =>
    have hlt : (n : Int) < k := by rcases hno with h | h; cases h; exact h
    go_enter Tryd.func50, Tryd.ntmps50
    go_wp2_with fail
    go_ret
    exact ⟨rfl, ⟨A, c, by rw [hn]; exact hset, by rw [hn]; exact hC, by omega, hp⟩, grown_set (World.grownBy.refl _ _) _ _⟩
set_option maxHeartbeats 1000000 in
set_option maxRecDepth 100000 in
theorem take_yes (w wr : World) (b : Nat) (bs : List Int) (p : Nat) (k : Nat) (h : Rdr w wr b bs p false) (hl : bs.length ≤ 1048576) (hk : p + k ≤ bs.length) :
    Calls Tryd.prog 50 #[.pointer (some ⟨b, 0, none⟩), .int .i64 k] wr fun e w' => (∃ A, (∃ c, e = .returned (.slice A k c) ∧ k ≤ c) ∧ (Kd.int .u8).C w A k ((bs.drop p).take k)) ∧ Rdr w w' b bs (p + k) false ∧ wr.grownBy w' (some b) := by
  obtain ⟨A, c, hblk, hC, hc, hp⟩ := h
  have m0 := hblk.at 0 _ rfl
  have m1 := hblk.at 1 _ rfl
  have f0 := hblk.free 0 _ rfl
  have hdl : (bs.drop p).length = bs.length - p := List.length_drop
  have hC' : (Kd.int .u8).C w A (bs.drop p).length (bs.drop p) := by rw [hdl]; exact hC
  have hTk := Kd.C_take (m := k) hC' (by omega)
  have hDr := Kd.C_drop (m := k) (c := c) hC' (by omega) (by omega)
  rw [show ((bs.drop p).take k).length = k by rw [List.length_take]; omega] at hTk
  rw [List.drop_drop, show (bs.drop (p + k)).length = bs.length - (p + k) from List.length_drop] at hDr
  have hset := fun v => hblk.set 0 v (by simp)
  generalize hn : bs.length - p = n at *
  have hkn : (k : Int) ≤ (n : Int) := by omega
  have hk0 : (0 : Int) ≤ (k : Int) := by omega
  have hkc : (k : Int) ≤ (c : Int) := by omega
  have hks : ¬ (n : Int) < (k : Int) := by omega
  obtain ⟨i, hi, hzz⟩ := Option.map_eq_some_iff.1 (rowU8 : RowT Tryd.prog _ _ _ _ _).hinfo
  simp only [Prod.mk.injEq] at hzz
  have hct := cut_to (P := Tryd.prog) 29 5 .i64 rowU8.ht hi A n c (k : Int) hk0 hkn hc
  have hcf := cut_from (P := Tryd.prog) 29 5 .i64 rowU8.ht hi 1 hzz.2.1 A n c (k : Int) hk0 hkn
  rw [Int.toNat_natCast] at hct hcf
  have hnk : bs.length - (p + k) = n - k := by omega
  rw [hnk] at hDr
  simp only [show (Kd.int .u8).sz = 1 from rfl, Nat.mul_one] at hDr
  by_cases hck : c = k
  · rw [if_pos hck] at hDr hcf
    subst hck
    go_enter Tryd.func50, Tryd.ntmps50
    go_wp2_with fail
    go_ret
    exact ⟨⟨A, ⟨_, rfl, by omega⟩, hTk⟩, ⟨A, 0, by rw [hnk, show n - c = 0 by omega]; exact hset _, by rw [hnk]; exact hDr, by omega, hk⟩, grown_set (World.grownBy.refl _ _) _ _⟩
  · rw [if_neg hck] at hDr hcf
    go_enter Tryd.func50, Tryd.ntmps50
    go_wp2_with fail
    go_ret
    exact ⟨⟨A, ⟨_, rfl, by omega⟩, hTk⟩, ⟨_, _, by rw [hnk]; exact hset _, by rw [hnk]; exact hDr, by omega, hk⟩, grown_set (World.grownBy.refl _ _) _ _⟩
theorem foldN_snoc (l : List Int) (c : Int) : foldN (l ++ [c]) = foldN l * 256 + c := by simp [foldN]
theorem foldN_take (l : List Int) (k : Nat) (h : k < l.length) : foldN (l.take (k + 1)) = foldN (l.take k) * 256 + rd l k := by
  rw [take_rd l k h, foldN_snoc]
theorem or8 (f r : Int) (h0 : 0 ≤ f) (h1 : f ≤ 16777215) (h2 : 0 ≤ r) (h3 : r ≤ 255) : bits .or .i64 (f * 256) r = f * 256 + r := by
  have e40 : (2 : Int) ^ 40 = 1099511627776 := by decide
  have e8 : (2 : Int) ^ 8 = 256 := by decide
  refine bits_join .i64 40 (by decide) (fun n h0 h1 => by rw [IntKind.wrap_i64]; rw [e40] at h1; omega) 8 (f * 256) r (by omega) (by rw [e8]; omega) (by rw [e40]; omega) h2 (by rw [e8]; omega) (by rw [e40]; omega)
/-- Bytes as a number of at most three. -/
theorem foldN_bd (l : List Int) (h : ∀ x ∈ l, 0 ≤ x ∧ x ≤ 255) (h3 : l.length ≤ 3) : 0 ≤ foldN l ∧ foldN l ≤ 16777215 := by
  match l, h3 with
  | [], _ => simp [foldN]
  | [a], _ => have := h a (by simp); simp [foldN]; omega
  | [a, b], _ => have := h a (by simp); have := h b (by simp); simp [foldN]; omega
  | [a, b, c], _ => have := h a (by simp); have := h b (by simp); have := h c (by simp); simp [foldN]; omega
set_option maxHeartbeats 1000000 in
set_option maxRecDepth 100000 in
theorem number_calls (w wr : World) (b : Nat) (bs : List Int) (p : Nat) (sh : Bool) (k : Nat) (h : Rdr w wr b bs p sh) (hl : bs.length ≤ 1048576) (hk : k ≤ 3) (hby : ∀ x ∈ bs, 0 ≤ x ∧ x ≤ 255) (hw : w.heap.size ≤ b) (hB : Below w.heap.size w wr) :
    Calls Tryd.prog 45 #[.pointer (some ⟨b, 0, none⟩), .int .i64 k] wr fun e w' => e = .returned (.int .i64 (numS bs (p, sh) k).1) ∧ Rdr w w' b bs (numS bs (p, sh) k).2.1 (numS bs (p, sh) k).2.2 ∧ wr.grownBy w' (some b) := by
  by_cases hno : sh = true ∨ bs.length < p + k
  · rw [numS, if_pos hno]
    have hT := Lib.hid (take_no w wr b bs p sh k h hl (by omega) (by
      rcases hno with h1 | h1
      · exact .inl h1
      · right; have := h; obtain ⟨_, _, _, _, _, hp⟩ := this; omega))
    go_enter Tryd.func45, Tryd.ntmps45
    go_wp2_with fail
    refine hT.out.mono ?_
    rintro e w1 ⟨rfl, hR1, hg1⟩
    go_wp2_with fail
    go_loopw [5, 12] (fun v i wz => v = .int .i64 0 ∧ i = .int .i64 0 ∧ w1 = wz) (fun _ _ _ => 0)
    case atStart => exact ⟨rfl, rfl, rfl⟩
    case round =>
      obtain ⟨rfl, rfl, rfl⟩ := hrel
      go_wp2_with fail
      go_ret
      exact ⟨rfl, hR1, hg1⟩
  · rw [numS, if_neg hno]
    obtain ⟨rfl, hpk⟩ : sh = false ∧ p + k ≤ bs.length := by
      refine ⟨?_, ?_⟩
      · cases sh with
        | false => rfl
        | true => exact absurd (.inl rfl) hno
      · rcases Nat.lt_or_ge bs.length (p + k) with h1 | h1
        · exact absurd (.inr h1) hno
        · exact h1
    have hT := Lib.hid (take_yes w wr b bs p k h hl hpk)
    have hlen : ((bs.drop p).take k).length = k := by rw [List.length_take, List.length_drop]; omega
    have hfb := fun j => foldN_bd (((bs.drop p).take k).take j) (fun x hx => hby x (List.mem_of_mem_drop (List.mem_of_mem_take (List.mem_of_mem_take hx)))) (by rw [List.length_take, hlen]; omega)
    have hrb : ∀ x ∈ (bs.drop p).take k, 0 ≤ x ∧ x ≤ 255 := fun x hx => hby x (List.mem_of_mem_drop (List.mem_of_mem_take hx))
    have hfn := fun j hj => foldN_take ((bs.drop p).take k) j hj
    generalize (bs.drop p).take k = L at *
    go_enter Tryd.func45, Tryd.ntmps45
    go_wp2_with fail
    refine hT.out.mono ?_
    rintro e w1 ⟨⟨A, ⟨c, rfl, hkc⟩, hC⟩, hR1, hg1⟩
    have hB1 : Below w.heap.size w w1 := hB.grown hg1 hB.size (fun z hz => by have := Option.some.inj hz; omega)
    go_wp2_with fail
    go_loopw [5, 12] (fun v i wz => ∃ j : Nat, j ≤ k ∧ v = .int .i64 (foldN (L.take j)) ∧ i = .int .i64 j ∧ w1 = wz) (fun _ i _ => k - (intOf i).toNat)
    case atStart => exact ⟨0, Nat.zero_le _, rfl, rfl, rfl⟩
    case round =>
      obtain ⟨j, hj, rfl, rfl, rfl⟩ := hrel
      by_cases hlt : j < k
      · have hjl : j < L.length := by omega
        obtain ⟨ad, e1, hx⟩ := int_at (Kd.C_below hC hB1) j hlt
        subst e1
        have i0 : (0 : Int) ≤ (j : Int) := by omega
        have i1 : (j : Int) < (k : Int) := by omega
        have hf0 := hfb j
        have hn1 := Lib.hid (hfn j hjl)
        have hr0 : 0 ≤ rd L j ∧ rd L j ≤ 255 := hrb _ (by rw [rd, Int.toNat_natCast, List.getD_eq_getElem?_getD, List.getElem?_eq_getElem hjl]; exact List.getElem_mem hjl)
        generalize rd L (j : Int) = r at *
        generalize foldN (L.take j) = f at *
        have hor := or8 f r hf0.1 hf0.2 hr0.1 hr0.2
        go_wp2_with fail
        go_roundw
        case rel => exact ⟨j + 1, hlt, by rw [hn1.out], by go_num, by trivial⟩
        case measure => simp [intOf]; omega
      · obtain rfl : j = k := by omega
        rw [List.take_of_length_le (by omega)]
        have i1 : ¬ (j : Int) < (j : Int) := by omega
        go_wp2_with fail
        go_ret
        exact ⟨rfl, hR1, hg1⟩
theorem numS_bd {bs : List Int} {st : Nat × Bool} {k : Nat} (hk : k ≤ 3) (hby : ∀ x ∈ bs, 0 ≤ x ∧ x ≤ 255) : 0 ≤ (numS bs st k).1 ∧ (numS bs st k).1 ≤ 16777215 := by
  unfold numS
  split
  · simp
  · exact foldN_bd _ (fun x hx => hby x (List.mem_of_mem_drop (List.mem_of_mem_take hx))) (by rw [List.length_take]; omega)
def txtS (bs : List Int) (st : Nat × Bool) : ByteArray × (Nat × Bool) :=
  if (numS bs st 2).2.2 = true ∨ bs.length < (numS bs st 2).2.1 + (numS bs st 2).1.toNat then (⟨#[]⟩, ((numS bs st 2).2.1, true))
  else (strOfNums ((bs.drop (numS bs st 2).2.1).take (numS bs st 2).1.toNat), ((numS bs st 2).2.1 + (numS bs st 2).1.toNat, false))
theorem grown_two {w w1 w2 : World} {r : Option Nat} (h : w.grownBy w1 r) (h2 : w1.grownBy w2 r) : w.grownBy w2 r := grown_step h h2 (.inl rfl)
set_option maxHeartbeats 1000000 in
set_option maxRecDepth 100000 in
theorem text_calls (w wr : World) (b : Nat) (bs : List Int) (p : Nat) (sh : Bool) (h : Rdr w wr b bs p sh) (hl : bs.length ≤ 1048576) (hby : ∀ x ∈ bs, 0 ≤ x ∧ x ≤ 255) (hw : w.heap.size ≤ b) (hB : Below w.heap.size w wr) :
    Calls Tryd.prog 46 #[.pointer (some ⟨b, 0, none⟩)] wr fun e w' => e = .returned (.string (txtS bs (p, sh)).1) ∧ Rdr w w' b bs (txtS bs (p, sh)).2.1 (txtS bs (p, sh)).2.2 ∧ wr.grownBy w' (some b) := by
  have hN := number_calls w wr b bs p sh 2 h hl (by omega) hby hw hB
  have hbd := numS_bd (bs := bs) (st := (p, sh)) (k := 2) (by omega) hby
  unfold txtS
  generalize numS bs (p, sh) 2 = r at *
  obtain ⟨n, q, s2⟩ := r
  simp only at hN hbd ⊢
  have hN := Lib.hid hN
  obtain ⟨m, rfl⟩ := Int.eq_ofNat_of_zero_le hbd.1
  simp only [Int.toNat_natCast]
  by_cases hno : s2 = true ∨ bs.length < q + m
  · rw [if_pos hno]
    go_enter Tryd.func46, Tryd.ntmps46
    go_wp2_with fail
    refine hN.out.mono ?_
    rintro e w1 ⟨rfl, hR1, hg1⟩
    go_wp2_with fail
    refine (take_no w w1 b bs q s2 (m : Int) hR1 hl (by omega) (by
      rcases hno with h1 | h1
      · exact .inl h1
      · right; obtain ⟨_, _, _, _, _, hp⟩ := hR1; omega)).mono ?_
    rintro e w2 ⟨rfl, hR2, hg2⟩
    have hcv := Kd.C_string (P := Tryd.prog) (src := 29) (dst := 9) (c := 0) Tryd.underlying29 Tryd.underlying5 Tryd.underlying9 (C_none (d := Kd.int .u8) w2)
    have hs0 : strOfNums [] = (⟨#[]⟩ : ByteArray) := rfl
    rw [hs0] at hcv
    go_wp2_with fail
    go_ret
    exact ⟨rfl, hR2, grown_two hg1 hg2⟩
  · rw [if_neg hno]
    obtain ⟨rfl, hpk⟩ : s2 = false ∧ q + m ≤ bs.length := by
      refine ⟨?_, ?_⟩
      · cases s2 with
        | false => rfl
        | true => exact absurd (.inl rfl) hno
      · rcases Nat.lt_or_ge bs.length (q + m) with h1 | h1
        · exact absurd (.inr h1) hno
        · exact h1
    have hlen : ((bs.drop q).take m).length = m := by rw [List.length_take, List.length_drop]; omega
    go_enter Tryd.func46, Tryd.ntmps46
    go_wp2_with fail
    refine hN.out.mono ?_
    rintro e w1 ⟨rfl, hR1, hg1⟩
    go_wp2_with fail
    refine (take_yes w w1 b bs q m hR1 hl hpk).mono ?_
    rintro e w2 ⟨⟨A, ⟨c, rfl, hkc⟩, hC⟩, hR2, hg2⟩
    have hB2 : Below w.heap.size w w2 := hB.grown (grown_two hg1 hg2) hB.size (fun z hz => by have := Option.some.inj hz; omega)
    have hC2 := Kd.C_below hC hB2
    rw [← hlen] at hC2
    have hcv := Kd.C_string (P := Tryd.prog) (src := 29) (dst := 9) (c := c) Tryd.underlying29 Tryd.underlying5 Tryd.underlying9 hC2
    rw [hlen] at hcv
    go_wp2_with fail
    go_ret
    exact ⟨rfl, hR2, grown_two hg1 hg2⟩
end Go.Proofs.YtdffojjimoilgaaDoor.H
