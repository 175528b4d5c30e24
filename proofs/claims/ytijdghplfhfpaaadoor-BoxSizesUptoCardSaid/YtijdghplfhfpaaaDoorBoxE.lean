/- Boxes: the bytes of all mails. -/
import Derived.Test.YtijdghplfhfpaaaDoorBoxD
namespace Go.Proofs.YtijdghplfhfpaaaDoor.H
open Go.RowKit Go.Proofs.YtijdghplfhfpaaaDoorW.PrintWords Go.Proofs.YtijdghplfhfpaaaDoorW.PrintLast Go.Proofs.YtijdghplfhfpaaaDoorW.PrintMore Go.Proofs.YtijdghplfhfpaaaDoor.U
set_option linter.unusedVariables false
set_option linter.unusedSimpArgs false
def mailsSize (l : List AMail) : Nat := (l.map (fun m => m.text.size)).sum
def stSize (bs : List ABox) : Nat := (bs.map (fun b => mailsSize b.2.2)).sum
theorem mails_step {l : List AMail} {j : Nat} (h : j < l.length) : mailsSize (l.drop j) = l[j].text.size + mailsSize (l.drop (j + 1)) := by
  unfold mailsSize; rw [List.drop_eq_getElem_cons h, List.map_cons, List.sum_cons]
theorem mails_zero (l : List AMail) : mailsSize (l.drop l.length) = 0 := by rw [List.drop_length]; rfl
theorem st_step {bs : List ABox} {k : Nat} (h : k < bs.length) : stSize (bs.drop k) = mailsSize bs[k].2.2 + stSize (bs.drop (k + 1)) := by
  unfold stSize; rw [List.drop_eq_getElem_cons h, List.map_cons, List.sum_cons]
theorem st_zero (bs : List ABox) : stSize (bs.drop bs.length) = 0 := by rw [List.drop_length]; rfl
theorem add1 (a : Addr) (i : Nat) : a.add (i + 1) = ⟨(a.add i).block, (a.add i).off + 1, none⟩ := by
  rw [← add_add]; simp [Addr.add]
theorem add2 (a : Addr) (i : Nat) : a.add (i + 2) = ⟨(a.add i).block, (a.add i).off + 2, none⟩ := by
  rw [← add_add]; simp [Addr.add]
set_option maxHeartbeats 1000000 in
set_option maxRecDepth 100000 in
theorem size_calls (A : Option Addr) (c : Nat) (bs : List ABox) (v2 : Value) (w : World) (hv : ∃ A2 n2 c2, v2 = .slice A2 n2 c2) (hr : kBox.C w A bs.length bs) (ht : stSize bs ≤ 1000000) :
    Calls Tryd.prog 49 #[.agg #[.slice A bs.length c, v2]] w fun e w' => e = .returned (.int .i64 (stSize bs)) ∧ Below w.heap.size w w' := by
  obtain ⟨A2, n2, c2, rfl⟩ := hv
  have h63 := hr.2.1
  generalize hR : stSize bs = R at *
  go_enter Tryd.func49, Tryd.ntmps49
  go_wp2_with fail
  go_loopw [3, 11] (fun v i wr => ∃ k n : Nat, k ≤ bs.length ∧ v = .int .i64 n ∧ i = .int .i64 k ∧ n + stSize (bs.drop k) = R ∧ Below w.heap.size w wr) (fun _ i _ => bs.length - (intOf i).toNat)
  case atStart => exact ⟨0, 0, Nat.zero_le _, rfl, rfl, by rw [Nat.zero_add]; exact hR, (by repeat (first | exact Below.refl _ _ | apply below_alloc | apply pw_below_drewN | apply below_drew1 | (refine Below.setCell ?_ (by first | (simp; done) | (simp; omega) | omega) _) ))⟩
  case round =>
    clear hR
    obtain ⟨k, n, hk, rfl, rfl, hR, hB⟩ := hrel
    by_cases hlt : k < bs.length
    · obtain ⟨ad, Ae, ce, e1, x0, x1, x2, hC⟩ := box_at (Kd.C_below hr hB) k hlt
      subst e1
      rw [add1] at x1
      rw [add2] at x2
      have i0 : (0 : Int) ≤ (k : Int) := by omega
      have i1 : (k : Int) < (bs.length : Int) := by omega
      rw [st_step hlt] at hR
      generalize bs[k].1 = nm at *
      generalize bs[k].2.1 = nx at *
      generalize bs[k].2.2 = l at *
      have h64 := hC.2.1
      obtain ⟨W0, rfl⟩ : ∃ W0 : World, W0 = wr := ⟨_, rfl⟩
      go_wp2_with fail
      go_loopw [3, 18] (fun v i wr => ∃ j n2 : Nat, j ≤ l.length ∧ v = .int .i64 n2 ∧ i = .int .i64 j ∧ n2 + mailsSize (l.drop j) + stSize (bs.drop (k + 1)) = R ∧ Below W0.heap.size W0 wr) (fun _ i _ => l.length - (intOf i).toNat)
      case atStart => exact ⟨0, n, Nat.zero_le _, rfl, rfl, by show n + mailsSize l + _ = R; omega, (by repeat (first | exact Below.refl _ _ | apply below_alloc | apply pw_below_drewN | apply below_drew1 | (refine Below.setCell ?_ (by first | (simp; done) | (simp; omega) | omega) _) ))⟩
      case round =>
        clear hR
        obtain ⟨j, n2, hj, rfl, rfl, hR, hB2⟩ := hrel
        by_cases hlt2 : j < l.length
        · obtain ⟨ad2, e2, hx0, hxj⟩ := flat_at (Kd.C_below hC hB2) j hlt2
          subst e2
          have q0 := hx0 _ rfl; have q1 := hxj 1 _ (by decide) rfl; have q2 := hxj 2 _ (by decide) rfl
          clear hx0 hxj
          rw [mails_step hlt2] at hR
          have j0 : (0 : Int) ≤ (j : Int) := by omega
          have j1 : (j : Int) < (l.length : Int) := by omega
          generalize l[j] = x at *
          have hw : IntKind.i64.wrap ((n2 : Int) + (x.text.size : Int)) = (n2 : Int) + (x.text.size : Int) := by rw [IntKind.wrap_i64]; omega
          replace hR := Lib.hid hR
          go_wp2_with fail
          go_roundw
          case rel => exact ⟨j + 1, n2 + x.text.size, hlt2, by go_num, by go_num, by have := hR.out; omega, (by repeat (first | exact Below.refl _ _ | apply below_alloc | apply pw_below_drewN | apply below_drew1 | (refine Below.setCell ?_ (by first | (simp; done) | (simp; omega) | omega) _) | exact hB2))⟩
          case measure => simp [intOf]; omega
        · obtain rfl : j = l.length := by omega
          rw [mails_zero] at hR
          have j1 : ¬ (l.length : Int) < (l.length : Int) := by omega
          go_wp2_with fail
          go_roundw
          case rel => exact ⟨k + 1, n2, hlt, rfl, by go_num, by omega, hB.trans (hB2.mono hB.size)⟩
          case measure => simp [intOf]; omega
    · obtain rfl : k = bs.length := by omega
      rw [st_zero] at hR
      obtain rfl : n = R := by omega
      have i1 : ¬ (bs.length : Int) < (bs.length : Int) := by omega
      go_wp2_with fail
      go_ret
      exact ⟨rfl, (by repeat (first | exact Below.refl _ _ | apply below_alloc | apply pw_below_drewN | apply below_drew1 | (refine Below.setCell ?_ (by first | (simp; done) | (simp; omega) | omega) _) | exact hB))⟩
set_option maxHeartbeats 1000000 in
set_option maxRecDepth 100000 in
theorem bytesOf_calls (A : Option Addr) (c : Nat) (bs : List ABox) (v2 : Value) (w : World) (hv : ∃ A2 n2 c2, v2 = .slice A2 n2 c2) (hr : kBox.C w A bs.length bs) (ht : stSize bs ≤ 1000000) :
    Calls Tryd.prog 17 #[.agg #[.slice A bs.length c, v2]] w fun e w' => e = .returned (.int .i64 (stSize bs)) ∧ Below w.heap.size w w' := by
  obtain ⟨A2, n2, c2, rfl⟩ := hv
  have h63 := hr.2.1
  generalize hR : stSize bs = R at *
  go_enter Tryd.func17, Tryd.ntmps17
  go_wp2_with fail
  go_loopw [3, 4] (fun v i wr => ∃ k n : Nat, k ≤ bs.length ∧ v = .int .i64 n ∧ i = .int .i64 k ∧ n + stSize (bs.drop k) = R ∧ Blk wr w.heap.size [.slice A bs.length c, .slice A2 n2 c2] ∧ Below w.heap.size w wr) (fun _ i _ => bs.length - (intOf i).toNat)
  case atStart => exact ⟨0, 0, Nat.zero_le _, rfl, rfl, by rw [Nat.zero_add]; exact hR, Blk.made w #[.slice A bs.length c, .slice A2 n2 c2] _, (by repeat (first | exact Below.refl _ _ | apply below_alloc | apply pw_below_drewN | apply below_drew1 | (refine Below.setCell ?_ (by first | (simp; done) | (simp; omega) | omega) _) ))⟩
  case round =>
    clear hR
    obtain ⟨k, n, hk, rfl, rfl, hR, hblk, hB⟩ := hrel
    have b0 := hblk.at 0 _ rfl
    have hz := hblk.lt
    by_cases hlt : k < bs.length
    · obtain ⟨ad, Ae, ce, e1, x0, x1, x2, hC⟩ := box_at (Kd.C_below hr hB) k hlt
      subst e1
      rw [add1] at x1
      rw [add2] at x2
      have i0 : (0 : Int) ≤ (k : Int) := by omega
      have i1 : (k : Int) < (bs.length : Int) := by omega
      rw [st_step hlt] at hR
      generalize bs[k].1 = nm at *
      generalize bs[k].2.1 = nx at *
      generalize bs[k].2.2 = l at *
      have h64 := hC.2.1
      go_wp2_with fail
      go_loopw [3, 5] (fun v i wz => ∃ j n2 : Nat, j ≤ l.length ∧ v = .int .i64 n2 ∧ i = .int .i64 j ∧ n2 + mailsSize (l.drop j) + stSize (bs.drop (k + 1)) = R ∧ wr = wz) (fun _ i _ => l.length - (intOf i).toNat)
      case atStart => exact ⟨0, n, Nat.zero_le _, rfl, rfl, by show n + mailsSize l + _ = R; omega, rfl⟩
      case round =>
        clear hR
        obtain ⟨j, n2, hj, rfl, rfl, hR, hw2⟩ := hrel
        subst hw2
        by_cases hlt2 : j < l.length
        · obtain ⟨ad2, e2, hx0, hxj⟩ := flat_at hC j hlt2
          subst e2
          have q0 := hx0 _ rfl; have q1 := hxj 1 _ (by decide) rfl; have q2 := hxj 2 _ (by decide) rfl
          clear hx0 hxj
          rw [mails_step hlt2] at hR
          have j0 : (0 : Int) ≤ (j : Int) := by omega
          have j1 : (j : Int) < (l.length : Int) := by omega
          generalize l[j] = x at *
          have hw : IntKind.i64.wrap ((n2 : Int) + (x.text.size : Int)) = (n2 : Int) + (x.text.size : Int) := by rw [IntKind.wrap_i64]; omega
          replace hR := Lib.hid hR
          go_wp2_with fail
          go_roundw
          case rel => exact ⟨j + 1, n2 + x.text.size, hlt2, by go_num, by go_num, by have := hR.out; omega, by trivial⟩
          case measure => simp [intOf]; omega
        · obtain rfl : j = l.length := by omega
          rw [mails_zero] at hR
          have j1 : ¬ (l.length : Int) < (l.length : Int) := by omega
          go_wp2_with fail
          go_roundw
          case rel => exact ⟨k + 1, n2, hlt, rfl, by go_num, by omega, hblk, hB⟩
          case measure => simp [intOf]; omega
    · obtain rfl : k = bs.length := by omega
      rw [st_zero] at hR
      obtain rfl : n = R := by omega
      have i1 : ¬ (bs.length : Int) < (bs.length : Int) := by omega
      go_wp2_with fail
      go_ret
      exact ⟨rfl, hB⟩
end Go.Proofs.YtijdghplfhfpaaaDoor.H
