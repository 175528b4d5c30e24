/- Batches read from bytes: the reference's pieceAt. -/
import Derived.Test.YtdffojjimoilgaaDoorDecB
namespace Go.Proofs.YtdffojjimoilgaaDoor.H
open Go.RowKit Go.Proofs.YtdffojjimoilgaaDoorW.PrintWords Go.Proofs.YtdffojjimoilgaaDoorW.PrintLast Go.Proofs.YtdffojjimoilgaaDoorW.PrintMore Go.Proofs.YtdffojjimoilgaaDoor.U
set_option linter.unusedVariables false
set_option linter.unusedSimpArgs false
theorem numS_short (bs : List Int) (q k : Nat) : numS bs (q, true) k = (0, (q, true)) := by rw [numS, if_pos (.inl rfl)]
theorem txtS_short (bs : List Int) (q : Nat) : txtS bs (q, true) = (⟨#[]⟩, (q, true)) := by
  rw [txtS, numS_short]; exact if_pos (.inl rfl)
theorem numS_out (bs : List Int) (q k : Nat) (h : bs.length < q + k) : numS bs (q, false) k = (0, (q, true)) := by rw [numS, if_pos (.inr h)]
theorem numS_in (bs : List Int) (q k : Nat) (h : q + k ≤ bs.length) : numS bs (q, false) k = (foldN ((bs.drop q).take k), (q + k, false)) := by
  rw [numS, if_neg]
  intro h1
  rcases h1 with h1 | h1
  · cases h1
  · simp only at h1; omega
theorem rd_get (bs : List Int) (q : Nat) (h : q < bs.length) : rd bs (q : Int) = bs[q] := by
  rw [rd, Int.toNat_natCast, List.getD_eq_getElem?_getD, List.getElem?_eq_getElem h]; rfl
theorem take_1 (bs : List Int) (q : Nat) (h : q < bs.length) : (bs.drop q).take 1 = [rd bs (q : Int)] := by
  rw [List.drop_eq_getElem_cons h, rd_get bs q h]; rfl
theorem take_2 (bs : List Int) (q : Nat) (h : q + 1 < bs.length) : (bs.drop q).take 2 = [rd bs (q : Int), rd bs ((q + 1 : Nat) : Int)] := by
  rw [List.drop_eq_getElem_cons (by omega : q < bs.length), List.drop_eq_getElem_cons h, rd_get bs q (by omega), rd_get bs (q + 1) h]; rfl
theorem take_3 (bs : List Int) (q : Nat) (h : q + 2 < bs.length) : (bs.drop q).take 3 = [rd bs (q : Int), rd bs ((q + 1 : Nat) : Int), rd bs ((q + 2 : Nat) : Int)] := by
  rw [List.drop_eq_getElem_cons (by omega : q < bs.length), List.drop_eq_getElem_cons (by omega : q + 1 < bs.length), List.drop_eq_getElem_cons h, rd_get bs q (by omega), rd_get bs (q + 1) (by omega), rd_get bs (q + 2) h]; rfl
theorem num_1 (bs : List Int) (q : Nat) (h : q < bs.length) : numS bs (q, false) 1 = (rd bs (q : Int), (q + 1, false)) := by
  rw [numS_in bs q 1 (by omega), take_1 bs q h]; simp [foldN]
theorem num_2 (bs : List Int) (q : Nat) (h : q + 1 < bs.length) : numS bs (q, false) 2 = (256 * rd bs (q : Int) + rd bs ((q + 1 : Nat) : Int), (q + 2, false)) := by
  rw [numS_in bs q 2 (by omega), take_2 bs q h]; simp [foldN]; omega
theorem num_3 (bs : List Int) (q : Nat) (h : q + 2 < bs.length) : numS bs (q, false) 3 = (65536 * rd bs (q : Int) + 256 * rd bs ((q + 1 : Nat) : Int) + rd bs ((q + 2 : Nat) : Int), (q + 3, false)) := by
  rw [numS_in bs q 3 (by omega), take_3 bs q h]; simp [foldN]; omega
def atI (st : Nat × Bool) : Int := if st.2 = true then -1 else (st.1 : Int)
theorem rd_bd {bs : List Int} (hby : ∀ x ∈ bs, 0 ≤ x ∧ x ≤ 255) (q : Nat) (h : q < bs.length) : 0 ≤ rd bs (q : Int) ∧ rd bs (q : Int) ≤ 255 := by
  rw [rd_get bs q h]; exact hby _ (List.getElem_mem h)
set_option maxHeartbeats 1000000 in
set_option maxRecDepth 100000 in
theorem pieceAt_calls (A : Option Addr) (c : Nat) (bs : List Int) (p : Nat) (sh : Bool) (w : World) (hr : Kd.C (Kd.int .u8) w A bs.length bs) (hc : bs.length ≤ c) (hl : bs.length ≤ 1048576) (hp : p ≤ bs.length) (hby : ∀ x ∈ bs, 0 ≤ x ∧ x ≤ 255) :
    Calls Tryd.prog 47 #[.slice A bs.length c, .int .i64 (atI (p, sh))] w fun e w' => e = .returned (.tuple #[.string (txtS bs (p, sh)).1, .int .i64 (atI (txtS bs (p, sh)).2)]) ∧ Below w.heap.size w w' := by
  cases sh with
  | true =>
    rw [txtS_short]
    simp only [atI, if_true]
    go_enter Tryd.func47, Tryd.ntmps47
    go_wp2_with fail
    go_ret2
    exact ⟨rfl, (by repeat (first | exact Below.refl _ _ | apply below_alloc | apply pw_below_drewN | apply below_drew1 | (refine Below.setCell ?_ (by first | (simp; done) | (simp; omega) | omega) _) ))⟩
  | false =>
    have ha : atI (p, false) = (p : Int) := rfl
    have j0 : ¬ (p : Int) < 0 := by omega
    by_cases h2 : bs.length < p + 2
    · have ht : txtS bs (p, false) = (⟨#[]⟩, (p, true)) := by rw [txtS, numS_out bs p 2 h2]; exact if_pos (.inl rfl)
      rw [ht, ha]
      have j1 : (bs.length : Int) < (p : Int) + 2 := by omega
      have hm1 : atI (p, true) = -1 := rfl
      rw [hm1]
      clear ht ha
      go_enter Tryd.func47, Tryd.ntmps47
      go_wp2_with fail
      go_ret2
      exact ⟨rfl, (by repeat (first | exact Below.refl _ _ | apply below_alloc | apply pw_below_drewN | apply below_drew1 | (refine Below.setCell ?_ (by first | (simp; done) | (simp; omega) | omega) _) ))⟩
    · have hn2 := num_2 bs p (by omega)
      obtain ⟨a1, a2⟩ := rd_bd hby p (by omega)
      obtain ⟨b1, b2⟩ := rd_bd hby (p + 1) (by omega)
      obtain ⟨ad, e1, x0⟩ := int_at hr p (by omega)
      obtain ⟨ad2, e2, x1⟩ := int_at hr (p + 1) (by omega)
      subst e1
      obtain rfl := Option.some.inj e2
      generalize rd bs (p : Int) = a at *
      generalize rd bs ((p + 1 : Nat) : Int) = b at *
      have x1' := x1
      simp [Addr.add] at x1'
      obtain ⟨n, hn⟩ := Int.eq_ofNat_of_zero_le (show 0 ≤ 256 * a + b by omega)
      rw [hn] at hn2
      have j1 : ¬ (bs.length : Int) < (p : Int) + 2 := by omega
      have j2 : (0 : Int) ≤ (p : Int) := by omega
      have j3 : (p : Int) < (bs.length : Int) := by omega
      have j4 : (0 : Int) ≤ (p : Int) + 1 := by omega
      have j5 : (p : Int) + 1 < (bs.length : Int) := by omega
      have j6 : ((p : Int) + 1).toNat = p + 1 := by omega
      have q1 : IntKind.i64.wrap ((p : Int) + 2) = (p : Int) + 2 := by rw [IntKind.wrap_i64]; omega
      have q2 : IntKind.i64.wrap a = a := by rw [IntKind.wrap_i64]; omega
      have q3 : IntKind.i64.wrap (256 * a) = 256 * a := by rw [IntKind.wrap_i64]; omega
      have q4 : IntKind.i64.wrap ((p : Int) + 2 + 256 * a) = (p : Int) + 2 + 256 * a := by rw [IntKind.wrap_i64]; omega
      have q5 : IntKind.i64.wrap ((p : Int) + 1) = (p : Int) + 1 := by rw [IntKind.wrap_i64]; omega
      have q6 : IntKind.i64.wrap b = b := by rw [IntKind.wrap_i64]; omega
      have q7 : IntKind.i64.wrap ((p : Int) + 2 + 256 * a + b) = (p : Int) + 2 + 256 * a + b := by rw [IntKind.wrap_i64]; omega
      by_cases h3 : bs.length < p + 2 + n
      · have ht : txtS bs (p, false) = (⟨#[]⟩, (p + 2, true)) := by rw [txtS, hn2]; exact if_pos (.inr (by simpa using h3))
        have hm1 : atI (p + 2, true) = -1 := rfl
        rw [ht, ha, hm1]
        have j7 : (bs.length : Int) < (p : Int) + 2 + 256 * a + b := by omega
        clear ht ha hn2 h2 h3 hn
        go_enter Tryd.func47, Tryd.ntmps47
        go_wp2_with fail
        go_quiet (fail)
        go_wp2_with fail
        go_ret2
        exact ⟨rfl, (by repeat (first | exact Below.refl _ _ | apply below_alloc | apply pw_below_drewN | apply below_drew1 | (refine Below.setCell ?_ (by first | (simp; done) | (simp; omega) | omega) _) ))⟩
      · have ht : txtS bs (p, false) = (strOfNums ((bs.drop (p + 2)).take n), (p + 2 + n, false)) := by
          rw [txtS, hn2, if_neg]
          · simp
          · intro h; rcases h with h | h
            · cases h
            · simp at h; omega
        have hm1 : atI (p + 2 + n, false) = (p : Int) + 2 + 256 * a + b := by show ((p + 2 + n : Nat) : Int) = _; omega
        rw [ht, ha, hm1]
        have j7 : ¬ (bs.length : Int) < (p : Int) + 2 + 256 * a + b := by omega
        obtain ⟨i, hi, hzz⟩ := Option.map_eq_some_iff.1 (rowU8 : RowT Tryd.prog _ _ _ _ _).hinfo
        simp only [Prod.mk.injEq] at hzz
        have hct := cut_mid (P := Tryd.prog) 29 5 .i64 .i64 rowU8.ht hi 1 hzz.2.1 (some ad) bs.length c ((p : Int) + 2) ((p : Int) + 2 + 256 * a + b) (by omega) (by omega) (by omega) hc
        rw [show ((p : Int) + 2).toNat = p + 2 by omega, show ((p : Int) + 2 + 256 * a + b).toNat = p + 2 + n by omega, Nat.add_sub_cancel_left] at hct
        have hM := Kd.C_mid (lo := p + 2) (hi := p + 2 + n) hr (by omega) (by omega) hc
        simp only [show (Kd.int .u8).sz = 1 from rfl] at hM
        have hdt : (bs.take (p + 2 + n)).drop (p + 2) = (bs.drop (p + 2)).take n := by rw [List.drop_take, Nat.add_sub_cancel_left]
        rw [hdt] at hM
        have hlen : ((bs.drop (p + 2)).take n).length = n := by rw [List.length_take, List.length_drop]; omega
        generalize (bs.drop (p + 2)).take n = xs at *
        generalize (if c = p + 2 then (some ad) else Option.map (fun x => x.add ((p + 2) * 1)) (some ad)) = A' at *
        have hcv := fun q => Kd.C_string (P := Tryd.prog) (src := 29) (dst := 9) (c := c - (p + 2)) Tryd.underlying29 Tryd.underlying5 Tryd.underlying9 (Kd.C_below hM (show Below w.heap.size w (w.drewN q) from (by repeat (first | exact Below.refl _ _ | apply below_alloc | apply pw_below_drewN | apply below_drew1 | (refine Below.setCell ?_ (by first | (simp; done) | (simp; omega) | omega) _) ))))
        simp only [hlen] at hcv
        clear ht ha hn2 h2 h3 hn hdt hM hlen hm1
        go_enter Tryd.func47, Tryd.ntmps47
        go_wp2_with fail
        go_quiet (fail)
        go_wp2_with fail
        go_ret2
        exact ⟨rfl, (by repeat (first | exact Below.refl _ _ | apply below_alloc | apply pw_below_drewN | apply below_drew1 | (refine Below.setCell ?_ (by first | (simp; done) | (simp; omega) | omega) _) ))⟩
end Go.Proofs.YtdffojjimoilgaaDoor.H
