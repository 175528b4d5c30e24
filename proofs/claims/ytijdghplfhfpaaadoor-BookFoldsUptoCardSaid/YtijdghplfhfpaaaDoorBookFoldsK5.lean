/- The claim BookFoldsUptoCardSaid, part 5 of 7. -/
import Derived.Test.YtijdghplfhfpaaaDoorBookFoldsK2
import Derived.Test.YtijdghplfhfpaaaDoorBookFoldsK4
import Derived.Test.YtijdghplfhfpaaaDoorBookFoldsK3
import Derived.Deep.RegionHeld3
import Derived.Test.YtijdghplfhfpaaaDoorBookFoldsK1
/- Batches folded: the plain law. -/
namespace Go.Proofs.YtijdghplfhfpaaaDoor.H
open Go.RowKit Go.Proofs.YtijdghplfhfpaaaDoorW.PrintWords Go.Proofs.YtijdghplfhfpaaaDoorW.PrintLast Go.Proofs.YtijdghplfhfpaaaDoor.U
set_option linter.unusedVariables false
set_option linter.unusedSimpArgs false
abbrev ABatch := Int × List AEntry
def inbox : ByteArray := (⟨#[73, 78, 66, 79, 88]⟩ : ByteArray)
def st0 : List ABox × List AEntry := ([(inbox, 1, [])], [])
def stepB (u : Int) (s : List ABox × List AEntry) (b : ABatch) : List ABox × List AEntry :=
  if b.1 = u then (if (allV s.1 s.2 b.2).1 = 0 then (allV s.1 s.2 b.2).2 else s) else s
def firstBad : List ABatch → Int
  | [] => 0
  | b :: l => if batchFault b.1 b.2 = 0 then firstBad l else batchFault b.1 b.2
def foldV (l : List ABatch) (u : Int) : Int × List ABox × List AEntry :=
  if firstBad l = 0 then (if u < 0 ∨ 2 < u then (6, [], []) else (0, l.foldl (stepB u) st0)) else (firstBad l, [], [])
theorem bad_good {l : List ABatch} {k : Nat} (h : k < l.length) (h2 : batchFault l[k].1 l[k].2 = 0) : firstBad (l.drop k) = firstBad (l.drop (k + 1)) := by
  rw [List.drop_eq_getElem_cons h, firstBad, if_pos h2]
theorem bad_bad {l : List ABatch} {k : Nat} (h : k < l.length) (h2 : ¬ batchFault l[k].1 l[k].2 = 0) : firstBad (l.drop k) = batchFault l[k].1 l[k].2 := by
  rw [List.drop_eq_getElem_cons h, firstBad, if_neg h2]
theorem bad_end (l : List ABatch) : firstBad (l.drop l.length) = 0 := by rw [List.drop_length]; rfl
theorem foldl_at {u : Int} {l : List ABatch} {k : Nat} (h : k < l.length) (s : List ABox × List AEntry) : (l.drop k).foldl (stepB u) s = (l.drop (k + 1)).foldl (stepB u) (stepB u s l[k]) := by
  rw [List.drop_eq_getElem_cons h, List.foldl_cons]
theorem foldl_end (u : Int) (l : List ABatch) (s : List ABox × List AEntry) : (l.drop l.length).foldl (stepB u) s = s := by rw [List.drop_length]; rfl
theorem okSt_set {bs : List ABox} {es : List AEntry} {i : Nat} {b : ABox} (h : okSt bs es) (hb : b.1.size ≤ 1048576) : okSt (bs.set i b) es :=
  ⟨fun z hz => by rcases List.mem_or_eq_of_mem_set hz with h1 | rfl; exact h.1 z h1; exact hb, h.2⟩
theorem okSt_add {bs : List ABox} {es : List AEntry} {i : Nat} {fl : Int} {tx : ByteArray} (h : okSt bs es) : okSt (addV bs i fl tx).2 es := by
  unfold addV
  split
  · exact h
  · rename_i b hb
    split
    · exact h
    · exact okSt_set h (h.1 b (List.mem_of_getElem? hb))
theorem okSt_put {bs : List ABox} {es : List AEntry} {i : Nat} {l : List AMail} (h : okSt bs es) : okSt (putMails bs i l) es := by
  unfold putMails
  split
  · exact h
  · rename_i b hb
    exact okSt_set h (h.1 b (List.mem_of_getElem? hb))
theorem okSt_ent {bs : List ABox} {es : List AEntry} {x : AEntry} (h : okSt bs es) (hx : okE x) : okSt (entV bs es x).2.1 (entV bs es x).2.2 := by
  unfold entV
  split
  · split
    · exact h
    · exact ⟨h.1, fun y hy => by rcases List.mem_append.1 hy with h1 | h1; exact h.2 y h1; rw [List.mem_singleton.1 h1]; exact hx⟩
  · split
    · split
      · exact h
      · split
        · exact h
        · exact ⟨fun b hb => by rcases List.mem_append.1 hb with h1 | h1; exact h.1 b h1; rw [List.mem_singleton.1 h1]; exact hx.1, h.2⟩
    · split
      · exact h
      · show okSt (mailV bs _ x).2 es
        unfold mailV
        split
        · exact okSt_add h
        · split
          · exact okSt_put h
          · split
            · exact h
            · split
              · exact okSt_put h
              · unfold copyV
                split
                · exact h
                · split
                  · exact h
                  · exact okSt_add h
theorem okSt_nil : okSt [] [] := ⟨fun b hb => (by cases hb), fun x hx => (by cases hx)⟩
theorem okSt_fold {l : List AEntry} : ∀ {bs : List ABox} {es : List AEntry}, okSt bs es → (∀ x ∈ l, okE x) → okSt (foldE bs es l).2.1 (foldE bs es l).2.2 := by
  induction l with
  | nil => intro bs es h _; exact h
  | cons x l ih =>
    intro bs es h hx
    rw [foldE]
    split
    · exact okSt_nil
    · split
      · exact okSt_nil
      · exact ih (okSt_ent h (hx x (List.mem_cons_self ..))) (fun y hy => hx y (List.mem_cons_of_mem _ hy))
theorem okSt_all {bs : List ABox} {es l : List AEntry} (h : okSt bs es) (hx : ∀ x ∈ l, okE x) : okSt (allV bs es l).2.1 (allV bs es l).2.2 := by
  unfold allV
  split
  · exact okSt_nil
  · split
    · exact okSt_nil
    · exact okSt_fold h hx
theorem okSt_step {u : Int} {s : List ABox × List AEntry} {b : ABatch} (h : okSt s.1 s.2) (hx : ∀ x ∈ b.2, okE x) : okSt (stepB u s b).1 (stepB u s b).2 := by
  unfold stepB
  split
  · split
    · exact okSt_all h hx
    · exact h
  · exact h
theorem okSt_0 : okSt st0.1 st0.2 := ⟨fun b hb => by
  obtain rfl := List.mem_singleton.1 hb
  show inbox.size ≤ 1048576
  decide, fun x hx => by cases hx⟩
theorem all_inbox : allV [] [] [⟨1, inbox, 0, 0, ⟨#[]⟩, ⟨#[]⟩⟩] = (0, st0) := by
  have h1 : stFault [] [] = 0 := by
    unfold stFault stTail
    rw [boxes_end (by simp)]
    rfl
  have h2 : entryFault ⟨1, inbox, 0, 0, ⟨#[]⟩, ⟨#[]⟩⟩ = 0 := by decide +kernel
  rw [allV, if_neg (by rw [h1]; decide), if_neg (by simp), foldE, if_neg (by rw [h2]; decide)]
  rfl
end Go.Proofs.YtijdghplfhfpaaaDoor.H

/- Batches: sameEntries and sameBatch. -/
namespace Go.Proofs.YtijdghplfhfpaaaDoor.H
open Go.RowKit Go.Proofs.YtijdghplfhfpaaaDoorW.PrintWords Go.Proofs.YtijdghplfhfpaaaDoorW.PrintLast Go.Proofs.YtijdghplfhfpaaaDoor.U
set_option linter.unusedVariables false
set_option linter.unusedSimpArgs false
attribute [local go_sem high] eqAEntry eqbAEntry_self
set_option maxHeartbeats 1000000 in
set_option maxRecDepth 100000 in
theorem sameEntries_calls (A : Option Addr) (c : Nat) (A2 : Option Addr) (c2 : Nat) (l : List AEntry) (w : World) (hr : Kd.C kAEntry w A l.length l) (hr2 : Kd.C kAEntry w A2 l.length l) :
    Calls Tryd.prog 22 #[.slice A l.length c, .slice A2 l.length c2] w fun e w' => e = .returned (.bool true) ∧ Below w.heap.size w w' := by
  have h63 := hr.2.1
  go_enter Tryd.func22, Tryd.ntmps22
  go_wp2
  go_loopw [5] (fun i wr => ∃ k : Nat, k ≤ l.length ∧ i = .int .i64 k ∧ ∃ q, wr = w.drewN q) (fun i _ => l.length - (intOf i).toNat)
  case atStart => exact ⟨0, Nat.zero_le _, rfl, 0, rfl⟩
  case round =>
    obtain ⟨k, hk, rfl, q, rfl⟩ := hrel
    by_cases hlt : k < l.length
    · obtain ⟨ad, e1, hx0, hxj⟩ := flat_at hr k hlt
      obtain ⟨ad2, e2, hy0, hyj⟩ := flat_at hr2 k hlt
      subst e1 e2
      have q0 := hx0 _ rfl; have q1 := hxj 1 _ (by decide) rfl; have q2 := hxj 2 _ (by decide) rfl; have q3 := hxj 3 _ (by decide) rfl; have q4 := hxj 4 _ (by decide) rfl; have q5 := hxj 5 _ (by decide) rfl
      have r0 := hy0 _ rfl; have r1 := hyj 1 _ (by decide) rfl; have r2 := hyj 2 _ (by decide) rfl; have r3 := hyj 3 _ (by decide) rfl; have r4 := hyj 4 _ (by decide) rfl; have r5 := hyj 5 _ (by decide) rfl
      clear hx0 hxj hy0 hyj
      have i0 : (0 : Int) ≤ (k : Int) := by omega
      have i1 : (k : Int) < (l.length : Int) := by omega
      go_wp2
      go_quiet (fail)
      go_wp2
      go_roundw
      case rel => exact ⟨k + 1, by omega, by go_num, _, rfl⟩
      case measure => simp [intOf]; omega
    · obtain rfl : k = l.length := by omega
      go_wp2
      go_ret
      exact ⟨rfl, by first | exact Below.refl _ _ | exact pw_below_drewN (Below.refl _ _) _⟩
set_option maxHeartbeats 1000000 in
set_option maxRecDepth 100000 in
theorem sameBatch_calls (u : Int) (A : Option Addr) (c : Nat) (A2 : Option Addr) (c2 : Nat) (l : List AEntry) (w : World) (hr : Kd.C kAEntry w A l.length l) (hr2 : Kd.C kAEntry w A2 l.length l) :
    Calls Tryd.prog 62 #[.agg #[.int .i64 u, .slice A l.length c], .agg #[.int .i64 u, .slice A2 l.length c2]] w fun e w' => e = .returned (.bool true) ∧ Below w.heap.size w w' := by
  have HS := Lib.hid (fun w hr hr2 => sameEntries_calls A c A2 c2 l w hr hr2)
  go_enter Tryd.func62, Tryd.ntmps62
  go_wp2_with fail
  refine (HS.out _ (Kd.C_below hr (by repeat (first | exact Below.refl _ _ | apply below_alloc | apply pw_below_drewN | apply below_drew1 | (refine Below.setCell ?_ (by first | (simp; done) | (simp; omega) | omega) _) ))) (Kd.C_below hr2 (by repeat (first | exact Below.refl _ _ | apply below_alloc | apply pw_below_drewN | apply below_drew1 | (refine Below.setCell ?_ (by first | (simp; done) | (simp; omega) | omega) _) )))).mono ?_
  rintro e w1 ⟨rfl, hb1⟩
  go_wp2_with fail
  go_ret
  exact ⟨(by first | rfl | (simp; done) | (simp [*]; done) | (rw [if_pos (by omega)]; first | rfl | (simp; done)) | (rw [if_neg (by omega)]; first | rfl | (simp; done)) | (simp; omega)), (by repeat (first | exact Below.refl _ _ | apply below_alloc | apply pw_below_drewN | apply below_drew1 | (refine Below.setCell ?_ (by first | (simp; done) | (simp; omega) | omega) _) | (refine below_then ?_ (by first | (simp; done) | (simp; omega) | omega) hb1)))⟩
end Go.Proofs.YtijdghplfhfpaaaDoor.H

/- Batches: rows of batches; batches, sameBatches. -/
namespace Go.Proofs.YtijdghplfhfpaaaDoor.H
open Go.RowKit Go.Proofs.YtijdghplfhfpaaaDoorW.PrintWords Go.Proofs.YtijdghplfhfpaaaDoorW.PrintLast Go.Proofs.YtijdghplfhfpaaaDoor.U
set_option linter.unusedVariables false
set_option linter.unusedSimpArgs false
def kBt : Kd ABatch := Kd.pair (Kd.int .i64) (Kd.slice 40 kAEntry)
section
variable {ops : Array Oper} {rest : List Oper} {o : Oper} {a : Act} {Q : Exit → Act → World → Prop}
theorem snocBt_list (base base2 : Nat) {W : World} (hgd : o.guard = none) (s x : Operand)
    (ho : o.op = .call { callee := .builtin .append, args := #[s, x], argTypes := #[43, 43] })
    (v : Value) (xs : List ABatch) (u : Int) (es : List AEntry) (vb : Value) (hs : a.eval s = v) (hx : a.eval x = .slice (some ⟨W.heap.size, 0, none⟩) 1 1)
    (hM : Kd.R kAEntry 40 W base2 (fun _ => True) vb es) (hb2 : base ≤ base2) (hvo : ∀ k, v.ownBlock = some k → k < base2)
    (HO : Kd.R kBt 88 W base (fun _ => True) v xs) (hbase : base ≤ W.heap.size) (hl : (xs.length + 1) * 32 ≤ 140737488355328)
    (h : ∀ v1 w1, Kd.R kBt 88 w1 base (fun _ => True) v1 (xs ++ [(u, es)]) → Below base W w1 → wpList Tryd.prog ops Q rest (a.put o.dst v1) w1) :
    wpList Tryd.prog ops Q (o :: rest) a (W.alloc (.cells #[.int .i64 u, vb] 88)) :=
  Kd.R_append kBt (w0 := W) base hgd s x 43 88 (.agg #[.int .i64 0, .slice none 0 0]) 32 ho Tryd.underlying43 (by kernel_rfl) rfl (by decide) (by decide) v xs (u, es) [.int .i64 u, vb] (fun _ => True) (fun k => base2 ≤ k) hs hx
    ⟨[.int .i64 u], [vb], rfl, rfl, ⟨vb, rfl, Kd.R_mono (Kd.R_lower (Kd.R_bound hM) hb2) (fun k hk => hk.2.1)⟩⟩ (fun k hk => ⟨trivial, fun he => by have := hvo k he.symm; omega⟩) (fun _ _ => trivial) HO (Below.refl _ _) hbase hl (fun v1 w1 hR hb _ _ => h v1 w1 hR hb)
end
theorem kBt_at {w : World} {A : Option Addr} {n : Nat} {xs : List ABatch} (h : kBt.C w A n xs) (k : Nat) (hk : k < xs.length) :
    ∃ ad Ae ce, A = some ad ∧ w.cell? (ad.add (k * 2)) = some (.int .i64 xs[k].1) ∧ w.cell? ⟨(ad.add (k * 2)).block, (ad.add (k * 2)).off + 1, none⟩ = some (.slice Ae xs[k].2.length ce) ∧ Kd.C kAEntry w Ae xs[k].2.length xs[k].2 := by
  have hn : xs.length = n := h.1
  obtain ⟨ad, e, hc⟩ := h.2.2 (by omega)
  obtain ⟨cs, _, hK, hcell⟩ := hc k _ (List.getElem?_eq_getElem hk)
  obtain ⟨c0, c1, hcs, h0, ⟨Ae, ce, h1, _, hC⟩⟩ := hK
  have h0' : c0 = [.int .i64 xs[k].1] := h0
  subst h0' h1 hcs
  refine ⟨ad, Ae, ce, e, hcell 0 _ rfl, ?_, hC⟩
  rw [← add1]
  exact hcell 1 _ rfl
set_option maxHeartbeats 1000000 in
set_option maxRecDepth 100000 in
theorem sameBatchesT_calls (A : Option Addr) (c : Nat) (A2 : Option Addr) (c2 : Nat) (l : List ABatch) (w : World) (hr : kBt.C w A l.length l) (hr2 : kBt.C w A2 l.length l) :
    Calls Tryd.prog 27 #[.slice A l.length c, .slice A2 l.length c2] w fun e w' => e = .returned (.bool true) ∧ Below w.heap.size w w' := by
  have h63 := hr.2.1
  go_enter Tryd.func27, Tryd.ntmps27
  go_wp2_with fail
  go_loopw [5] (fun i wr => ∃ k : Nat, k ≤ l.length ∧ i = .int .i64 k ∧ Below w.heap.size w wr) (fun i _ => l.length - (intOf i).toNat)
  case atStart => exact ⟨0, Nat.zero_le _, rfl, Below.refl _ _⟩
  case round =>
    obtain ⟨k, hk, rfl, hB⟩ := hrel
    by_cases hlt : k < l.length
    · obtain ⟨ad, Ae, ce, e1, x0, x1, hC⟩ := kBt_at (Kd.C_below hr hB) k hlt
      obtain ⟨ad2, Ae2, ce2, e2, y0, y1, hC2⟩ := kBt_at (Kd.C_below hr2 hB) k hlt
      subst e1 e2
      generalize l[k].1 = u at *
      generalize l[k].2 = es at *
      have HS := Lib.hid (fun W (h : Below wr.heap.size wr W) => sameBatch_calls u Ae ce Ae2 ce2 es W (Kd.C_below hC h) (Kd.C_below hC2 h))
      have i0 : (0 : Int) ≤ (k : Int) := by omega
      have i1 : (k : Int) < (l.length : Int) := by omega
      have x0d := cell_drew' x0
      have x1d := cell_drew' x1
      have y0d := cell_drew' y0
      have y1d := cell_drew' y1
      go_wp2_with fail
      go_region_held3 (fun w' => w'.cell? (ad.add (k * 2)) = some (.int .i64 u) ∧ w'.cell? ⟨(ad.add (k * 2)).block, (ad.add (k * 2)).off + 1, none⟩ = some (.slice Ae es.length ce) ∧ w'.cell? (ad2.add (k * 2)) = some (.int .i64 u) ∧ w'.cell? ⟨(ad2.add (k * 2)).block, (ad2.add (k * 2)).off + 1, none⟩ = some (.slice Ae2 es.length ce2))
        (first | exact ⟨x0d, x1d, y0d, y1d⟩ | exact ⟨k0, k1, k2, k3⟩ | go_keep)
        ((go_at_call 62; refine (HS.out _ (by repeat (first | exact Below.refl _ _ | apply below_alloc | apply pw_below_drewN | apply below_drew1 | (refine Below.setCell ?_ (by first | (simp; done) | (simp; omega) | omega) _) ))).mono ?_; rintro e w5 ⟨rfl, hb5⟩; have k0 := (hb5.cell (lt_of_cell' x0d)).trans x0d; have k1 := (hb5.cell (lt_of_cell' x1d)).trans x1d; have k2 := (hb5.cell (lt_of_cell' y0d)).trans y0d; have k3 := (hb5.cell (lt_of_cell' y1d)).trans y1d))
      go_wp2_with fail
      go_roundw
      case rel => exact ⟨k + 1, by omega, by go_num, hB.trans ((Below.trans (show Below wr.heap.size wr wr.drew from (by repeat (first | exact Below.refl _ _ | apply below_alloc | apply pw_below_drewN | apply below_drew1 | (refine Below.setCell ?_ (by first | (simp; done) | (simp; omega) | omega) _) ))) (hb5.mono (by simp))).mono hB.size)⟩
      case measure => simp [intOf]; omega
    · obtain rfl : k = l.length := by omega
      have i1 : ¬ (l.length : Int) < (l.length : Int) := by omega
      go_wp2_with fail
      go_ret
      exact ⟨rfl, hB⟩
set_option maxHeartbeats 1000000 in
set_option maxRecDepth 100000 in
theorem batches_calls (A : Option Addr) (c : Nat) (l : List ABatch) (w : World) (hr : kBt.C w A l.length l) (hl : l.length ≤ 1048576) (hle : ∀ b ∈ l, b.2.length ≤ 1048576) :
    Calls Tryd.prog 24 #[.slice A l.length c] w fun e w' => ∃ v : Value, e = .returned v ∧ Kd.R kBt 88 w' w.heap.size (fun _ => True) v l ∧ Below w.heap.size w w' := by
  have h63 := hr.2.1
  go_enter Tryd.func24, Tryd.ntmps24
  go_wp2_with fail
  go_loopw [3, 4] (fun v i wr => ∃ k : Nat, k ≤ l.length ∧ i = .int .i64 k ∧ Kd.R kBt 88 wr w.heap.size (fun _ => True) v (l.take k) ∧ Below w.heap.size w wr) (fun _ i _ => l.length - (intOf i).toNat)
  case atStart => exact ⟨0, Nat.zero_le _, rfl, Kd.R_nil _ _ _ _ _, Below.refl _ _⟩
  case round =>
    obtain ⟨k, hk, rfl, hR, hB⟩ := hrel
    by_cases hlt : k < l.length
    · obtain ⟨ad, Ae, ce, e1, x0, x1, hC⟩ := kBt_at (Kd.C_below hr hB) k hlt
      subst e1
      have htk := Lib.hid (List.take_succ_eq_append_getElem hlt)
      have hle2 := hle _ (List.getElem_mem hlt)
      obtain ⟨⟨u, es⟩, hbk⟩ : ∃ z, l[k] = z := ⟨_, rfl⟩
      rw [hbk] at x0 x1 hC hle2 htk
      simp only at x0 x1 hC hle2
      clear hbk
      have HB := Lib.hid (batch_calls u Ae ce es wr hC (by omega))
      obtain ⟨A5, c5, rfl⟩ := Kd.R_slice hR
      have hlk : (l.take k).length = k := by rw [List.length_take]; omega
      rw [hlk] at hR ⊢
      replace hlk := Lib.hid hlk
      have i0 : (0 : Int) ≤ (k : Int) := by omega
      have i1 : (k : Int) < (l.length : Int) := by omega
      have hRl := Kd.R_lt hR
      go_wp2_with fail
      refine HB.out.mono ?_
      rintro e w1 ⟨A1, c1, rfl, hR1, hb1⟩
      have hz1 := hb1.size
      have hzw := hB.size
      obtain ⟨Wc, hWc⟩ : ∃ Wc : World, Wc = w1.alloc (.cells #[.int .i64 u, .slice A1 es.length c1] 88) := ⟨_, rfl⟩
      have hbc : Below wr.heap.size wr Wc := by rw [hWc]; exact below_alloc' hb1 (by omega) _
      have hRc := Kd.R_below hR hbc
      have hR1c : Kd.R kAEntry 40 Wc wr.heap.size (fun _ => True) (.slice A1 es.length c1) es := by rw [hWc]; exact Kd.R_below hR1 (by repeat (first | exact Below.refl _ _ | apply below_alloc | apply pw_below_drewN | apply below_drew1 | (refine Below.setCell ?_ (by first | (simp; done) | (simp; omega) | omega) _) ))
      have hzc := hbc.size
      have hBc := hB.trans (hbc.mono (by omega))
      subst hWc
      go_wp2_with (at_builtin; refine snocBt_list w.heap.size wr.heap.size rfl _ _ rfl (.slice A5 k c5) (l.take k) u es (.slice A1 es.length c1) (by first | rfl | (simp [Act.eval]; done)) (by first | rfl | (simp [Act.eval]; done)) hR1c (by omega) hRl hRc (by omega) (by rw [hlk.out]; omega) ?_; intro v9 w9 hR9 hb9)
      go_roundw
      case rel => exact ⟨k + 1, hlt, by go_num, by rw [htk.out]; exact hR9, hBc.trans hb9⟩
      case measure => simp [intOf]; omega
    · obtain rfl : k = l.length := by omega
      rw [List.take_length] at hR
      have i1 : ¬ (l.length : Int) < (l.length : Int) := by omega
      go_wp2_with fail
      go_ret
      exact ⟨_, rfl, hR, hB⟩
end Go.Proofs.YtijdghplfhfpaaaDoor.H

/- Boxes: box.Apply. -/
namespace Go.Proofs.YtijdghplfhfpaaaDoor.H
open Go.RowKit Go.Proofs.YtijdghplfhfpaaaDoorW.PrintWords Go.Proofs.YtijdghplfhfpaaaDoorW.PrintLast Go.Proofs.YtijdghplfhfpaaaDoor.U
set_option linter.unusedVariables false
set_option linter.unusedSimpArgs false
theorem lit_entry (W : World) (x : AEntry) : Kd.C kAEntry (W.alloc (.cells #[.int .i64 x.kind, .string x.box, .int .i64 x.uid, .int .i64 x.flags, .string x.to_, .string x.text] 40)) (some ⟨W.heap.size, 0, none⟩) 1 [x] :=
  (Kd.R_reads' (R_lit1 kAEntry flat_kd 40 W x [.int .i64 x.kind, .string x.box, .int .i64 x.uid, .int .i64 x.flags, .string x.to_, .string x.text] rfl)).2.2
set_option maxHeartbeats 2000000 in
set_option maxRecDepth 100000 in
theorem applyTop_calls (A : Option Addr) (c : Nat) (bs : List ABox) (A2 : Option Addr) (c2 : Nat) (es : List AEntry) (x : AEntry) (m : Int) (w : World) (hr : kBox.C w A bs.length bs) (hc : bs.length ≤ c) (hr2 : Kd.C kAEntry w A2 es.length es) (hs : okSt bs es)
    (hx : okE x) (hm : w.cell? ⟨6, 0, none⟩ = some (.int .i64 m)) (hg : 6 < w.heap.size) :
    Calls Tryd.prog 23 #[.agg #[.slice A bs.length c, .slice A2 es.length c2], .agg #[.int .i64 x.kind, .string x.box, .int .i64 x.uid, .int .i64 x.flags, .string x.to_, .string x.text]] w (PostAll w (allV bs es [x])) := by
  obtain ⟨W3, hW3⟩ : ∃ W3 : World, W3 = ((w.alloc (.cells #[.slice A bs.length c, .slice A2 es.length c2] 25)).alloc (.cells #[.int .i64 x.kind, .string x.box, .int .i64 x.uid, .int .i64 x.flags, .string x.to_, .string x.text] 40)).alloc (.cells #[.slice none 0 0, .slice none 0 0] 25) := ⟨_, rfl⟩
  have hQ3 : Blk W3 (w.heap.size + 1 + 1) [.slice none 0 0, .slice none 0 0] := by rw [hW3]; exact Blk.made_at _ _ _ (by simp)
  have hz3 : W3.heap.size = w.heap.size + 1 + 1 + 1 := by rw [hW3]; simp
  obtain ⟨W4, hW4⟩ : ∃ W4 : World, W4 = W3.alloc (.cells #[.int .i64 x.kind, .string x.box, .int .i64 x.uid, .int .i64 x.flags, .string x.to_, .string x.text] 40) := ⟨_, rfl⟩
  have hQ4 : Blk W4 (w.heap.size + 1 + 1) [.slice none 0 0, .slice none 0 0] := by rw [hW4]; exact hQ3.alloc _
  have hL4 : Kd.C kAEntry W4 (some ⟨w.heap.size + 1 + 1 + 1, 0, none⟩) 1 [x] := by rw [hW4, ← hz3]; exact lit_entry W3 x
  have hB4 : Below w.heap.size w W4 := by rw [hW4, hW3]; exact (by repeat (first | exact Below.refl _ _ | apply below_alloc | apply pw_below_drewN | apply below_drew1 | (refine Below.setCell ?_ (by first | (simp; done) | (simp; omega) | omega) _) ))
  have hz4 : W4.heap.size = w.heap.size + 1 + 1 + 1 + 1 := by rw [hW4]; simp [hz3]
  have H1 := all_calls A c bs A2 c2 es (some ⟨w.heap.size + 1 + 1 + 1, 0, none⟩) 1 [x] m W4 (Kd.C_below hr hB4) hc (Kd.C_below hr2 hB4) hs hL4 (fun y hy => by rw [List.mem_singleton.1 hy]; exact hx) (cell_below hB4 hm hg) (by omega)
  generalize allV bs es [x] = R at *
  obtain ⟨rf, rb, re⟩ := R
  replace H1 := Lib.hid H1
  rw [hW3] at hW4
  replace hW4 := Lib.hid hW4
  clear hQ3 hW3 hL4
  go_enter Tryd.func23, Tryd.ntmps23
  go_wp2_with fail
  rw [← hW4.out]
  refine H1.out.mono ?_
  rintro e w5 ⟨vB, vS, rfl, hS5, hE5, hb5⟩
  obtain ⟨A5, c5, rfl⟩ := Kd.S_slice hS5
  obtain ⟨A6, c6, rfl⟩ := Kd.R_slice hE5
  have hQ5 := hQ4.below hb5 (by omega)
  have hz5 := hb5.size
  have hB5 := hB4.trans (hb5.mono (by omega))
  have q0 := hQ5.at 0 _ rfl
  have q1 := hQ5.at 1 _ rfl
  have q2 := hQ5.free 0 _ rfl
  have q3 := hQ5.free 1 _ rfl
  go_wp2_with fail
  refine bodyPost_ret (v := .tuple #[.agg #[.slice A5 rb.length c5, .slice A6 re.length c6], .int .i64 rf]) (by simp [results, Tryd.results23, go_sem, *]) rfl ?_
  refine ⟨_, _, rfl, ?_, ?_, (by repeat (first | exact Below.refl _ _ | apply below_alloc | apply pw_below_drewN | apply below_drew1 | (refine Below.setCell ?_ (by first | (simp; done) | (simp; omega) | omega) _) | exact hB5))⟩
  · exact Kd.S_lower (S_elder (S_elder hS5 (show w.heap.size + 1 + 1 < W4.heap.size by omega) _) (show w.heap.size + 1 + 1 < W4.heap.size by omega) _) (by omega)
  · exact Kd.R_lower (R_elder (R_elder hE5 (show w.heap.size + 1 + 1 < W4.heap.size by omega) _) (show w.heap.size + 1 + 1 < W4.heap.size by omega) _) (by omega)
end Go.Proofs.YtijdghplfhfpaaaDoor.H

/- Boxes: the reference's StateCopy. -/
namespace Go.Proofs.YtijdghplfhfpaaaDoor.H
open Go.RowKit Go.Proofs.YtijdghplfhfpaaaDoorW.PrintWords Go.Proofs.YtijdghplfhfpaaaDoorW.PrintLast Go.Proofs.YtijdghplfhfpaaaDoor.U
set_option linter.unusedVariables false
set_option linter.unusedSimpArgs false
set_option maxHeartbeats 2000000 in
set_option maxRecDepth 100000 in
theorem stateCopy_calls (A : Option Addr) (c : Nat) (bs : List ABox) (A2 : Option Addr) (c2 : Nat) (es : List AEntry) (w : World) (hr : kBox.C w A bs.length bs) (hr2 : Kd.C kAEntry w A2 es.length es) (hl1 : bs.length ≤ 1048576) (hl2 : es.length ≤ 1048576) (hl3 : ∀ b ∈ bs, b.2.2.length ≤ 1048576) :
    Calls Tryd.prog 56 #[.agg #[.slice A bs.length c, .slice A2 es.length c2]] w fun e w' => ∃ vB vS : Value, e = .returned (.agg #[vB, vS]) ∧ Kd.S kBox 77 w' w.heap.size (fun _ => True) vB bs ∧ Kd.R kAEntry 40 w' w.heap.size (fun _ => True) vS es ∧ Below w.heap.size w w' := by
  have h63 := hr.2.1
  have h64 := hr2.2.1
  obtain ⟨W3, hW3⟩ : ∃ W3 : World, W3 = ((w.alloc (.cells #[.slice A bs.length c, .slice A2 es.length c2] 25)).alloc (.cells #[.slice none 0 0, .slice none 0 0] 25)).alloc (.cells #[.slice none 0 0, .slice none 0 0] 25) := ⟨_, rfl⟩
  have hP : Blk W3 w.heap.size [.slice A bs.length c, .slice A2 es.length c2] := by rw [hW3]; exact ((Blk.made w _ _).alloc _).alloc _
  have hQ : Blk W3 (w.heap.size + 1) [.slice none 0 0, .slice none 0 0] := by rw [hW3]; exact (Blk.made_at _ _ _ (by simp)).alloc _
  have hO : Blk W3 (w.heap.size + 1 + 1) [.slice none 0 0, .slice none 0 0] := by rw [hW3]; exact Blk.made_at _ _ _ (by simp)
  have hB0 : Below w.heap.size w W3 := by rw [hW3]; exact (by repeat (first | exact Below.refl _ _ | apply below_alloc | apply pw_below_drewN | apply below_drew1 | (refine Below.setCell ?_ (by first | (simp; done) | (simp; omega) | omega) _) ))
  have hz0 : W3.heap.size = w.heap.size + 1 + 1 + 1 := by rw [hW3]; simp
  replace hW3 := Lib.hid hW3
  go_enter Tryd.func56, Tryd.ntmps56
  go_wp2_with fail
  rw [← hW3.out]
  go_loopw [4] (fun i wr => ∃ (k : Nat) (vB : Value), k ≤ bs.length ∧ i = .int .i64 k ∧ Kd.S kBox 77 wr (w.heap.size + 1 + 1 + 1) (fun _ => True) vB (bs.take k) ∧ Blk wr w.heap.size [.slice A bs.length c, .slice A2 es.length c2] ∧ Blk wr (w.heap.size + 1) [.slice none 0 0, .slice none 0 0] ∧ Blk wr (w.heap.size + 1 + 1) [vB, .slice none 0 0] ∧ w.heap.size + 1 + 1 + 1 ≤ wr.heap.size ∧ Below w.heap.size w wr) (fun i _ => bs.length - (intOf i).toNat)
  case atStart => exact ⟨0, _, Nat.zero_le _, rfl, Kd.S_nil _ _ _ _ _, hP, hQ, hO, by omega, hB0⟩
  case round =>
    clear hP hQ hO hB0
    obtain ⟨k, vB, hk, rfl, hS, hP, hQ, hO, hz, hB⟩ := hrel
    have p0 := hP.at 0 _ rfl
    by_cases hlt : k < bs.length
    · obtain ⟨ad, Ae, ce, e1, x0, x1, x2, hC⟩ := box_at (Kd.C_below hr hB) k hlt
      subst e1
      rw [add1] at x1
      rw [add2] at x2
      have i0 : (0 : Int) ≤ (k : Int) := by omega
      have i1 : (k : Int) < (bs.length : Int) := by omega
      have hl4 := hl3 _ (List.getElem_mem hlt)
      obtain ⟨nm, nx, l, hbk⟩ : ∃ nm nx l, bs[k] = (nm, nx, l) := ⟨_, _, _, rfl⟩
      have htk := Lib.hid (boxes_take hlt hbk)
      rw [hbk] at x0 x1 x2 hC hl4
      simp only at x0 x1 x2 hC hl4
      clear hbk
      obtain ⟨Ab, cb, rfl⟩ := Kd.S_slice hS
      have hlk : (bs.take k).length = k := by rw [List.length_take]; omega
      rw [hlk] at hO
      rw [hlk] at hS
      replace hlk := Lib.hid hlk
      have p0d := cell_drew' p0
      have x0d := cell_drew' x0
      have x1d := cell_drew' x1
      go_wp2_with fail
      go_region_held3 (fun w' => w'.cell? ⟨w.heap.size, 0, none⟩ = some (.slice (some ad) bs.length c) ∧ w'.cell? (ad.add (k * 3)) = some (.string nm) ∧ w'.cell? ⟨(ad.add (k * 3)).block, (ad.add (k * 3)).off + 1, none⟩ = some (.int .i64 nx))
        (first | exact ⟨p0d, x0d, x1d⟩ | exact ⟨cell_alloc' p0d _, cell_alloc' x0d _, cell_alloc' x1d _⟩ | go_keep) (fail)
      obtain ⟨W0, hW0⟩ : ∃ W0 : World, W0 = wr := ⟨_, rfl⟩
      obtain ⟨bb, hbb⟩ : ∃ bb, bb = wr.heap.size := ⟨_, rfl⟩
      have hX0 : Blk (wr.alloc (.cells #[.string nm, .int .i64 nx, .slice none 0 0] 77)).drew bb [.string nm, .int .i64 nx, .slice none 0 0] := by rw [hbb]; exact (Blk.made _ _ _).drew
      have hB1 : Below bb wr (wr.alloc (.cells #[.string nm, .int .i64 nx, .slice none 0 0] 77)).drew := by rw [hbb]; exact (by repeat (first | exact Below.refl _ _ | apply below_alloc | apply pw_below_drewN | apply below_drew1 | (refine Below.setCell ?_ (by first | (simp; done) | (simp; omega) | omega) _) ))
      rw [← hbb]
      obtain ⟨Wn, hWn⟩ : ∃ Wn : World, Wn = (wr.alloc (.cells #[.string nm, .int .i64 nx, .slice none 0 0] 77)).drew := ⟨_, rfl⟩
      rw [← hWn] at hX0 hB1 ⊢
      replace hWn := Lib.hid hWn
      have hadb : (ad.add (k * 3)).block < bb := by rw [hbb]; exact lt_of_cell' x0
      rw [← hW0] at hB1 hP hQ hO hS hB hC hz x2 p0 hbb
      clear hW0 x0 x1 p0d x0d x1d
      have hl63 := hC.2.1
      have n0 : w.heap.size ≠ bb := by omega
      have n1 : (ad.add (k * 3)).block ≠ bb := by omega
      have hzb : w.heap.size < bb := by omega
      have hzn := hX0.lt
      replace hbb := Lib.hid hbb
      have p0n := (hB1.cell (p := ⟨w.heap.size, 0, none⟩) hzb).trans p0
      have x2n := (hB1.cell (p := ⟨(ad.add (k * 3)).block, (ad.add (k * 3)).off + 2, none⟩) hadb).trans x2
      go_wp2_with fail
      go_loopw [6] (fun i wz => ∃ (j : Nat) (vM : Value), j ≤ l.length ∧ i = .int .i64 j ∧ Kd.R kAMail 84 wz (bb + 1) (fun _ => True) vM (l.take j) ∧ Blk wz bb [.string nm, .int .i64 nx, vM] ∧ Below bb W0 wz) (fun i _ => l.length - (intOf i).toNat)
      case atStart => exact ⟨0, _, Nat.zero_le _, rfl, Kd.R_nil _ _ _ _ _, hX0, hB1⟩
      case round =>
        clear hX0 hB1 p0n x2n hzn hWn
        obtain ⟨j, vM, hj, rfl, hM, hX, hBz⟩ := hrel
        have hzz := hX.lt
        have p0z := (hBz.cell (p := ⟨w.heap.size, 0, none⟩) hzb).trans p0
        have x2z := (hBz.cell (p := ⟨(ad.add (k * 3)).block, (ad.add (k * 3)).off + 2, none⟩) hadb).trans x2
        by_cases hlj2 : j < l.length
        · have hCz : Kd.C kAMail wr Ae l.length l := Kd.C_below (by exact hC) (by rw [← hbb.out]; exact hBz)
          obtain ⟨ad2, e2, hx0, hxj⟩ := flat_at hCz j hlj2
          subst e2
          have had2 : (ad2.add (j * 3)).block < bb := by
            obtain ⟨ad3, e3, hx3, _⟩ := flat_at hC j hlj2
            obtain rfl := Option.some.inj e3
            rw [hbb.out]; exact lt_of_cell' (hx3 _ rfl)
          have q0 := hx0 _ rfl; have q1 := hxj 1 _ (by decide) rfl; have q2 := hxj 2 _ (by decide) rfl
          clear hx0 hxj
          have htj := Lib.hid (List.take_succ_eq_append_getElem hlj2)
          obtain ⟨A5, c5, rfl⟩ := Kd.R_slice hM
          have hlj : (l.take j).length = j := by rw [List.length_take]; omega
          rw [hlj] at hM hX
          replace hlj := Lib.hid hlj
          have j0 : (0 : Int) ≤ (j : Int) := by omega
          have j1 : (j : Int) < (l.length : Int) := by omega
          generalize l[j] = x at *
          have n2 : (ad2.add (j * 3)).block ≠ bb := by omega
          have had2' : (ad2.add (j * 3)).block < bb + 1 := by omega
          have hadb' : (ad.add (k * 3)).block < bb + 1 := by omega
          have p0d := cell_drew' p0z
          have x2d := cell_drew' x2z
          have q0d := cell_drew' q0
          have q1d := cell_drew' q1
          have q2d := cell_drew' q2
          have hXd := hX.drew
          have hMd := Kd.R_drew hM
          have o2d := hX.at 2 _ rfl
          have o2a := cell_alloc' o2d (.cells #[.int .i64 x.uid, .int .i64 x.flags, .string x.text] 84)
          go_wp2_with fail
          refine wp_region_held_drew (S := fun w' => w'.cell? ⟨w.heap.size, 0, none⟩ = some (.slice (some ad) bs.length c) ∧ w'.cell? ⟨(ad.add (k * 3)).block, (ad.add (k * 3)).off + 2, none⟩ = some (.slice (some ad2) l.length ce) ∧ w'.cell? (ad2.add (j * 3)) = some (.int .i64 x.uid) ∧ w'.cell? ⟨(ad2.add (j * 3)).block, (ad2.add (j * 3)).off + 1, none⟩ = some (.int .i64 x.flags) ∧ w'.cell? ⟨(ad2.add (j * 3)).block, (ad2.add (j * 3)).off + 2, none⟩ = some (.string x.text)) (by kernel_rfl) ?_ (fun hHeld => ?_)
          · exact ⟨p0d, x2d, q0d, q1d, q2d⟩
          refine wpAnyH_take (i := 0) (oi := { dst := some 39, op := _, type := _, pos := _, after := _, guard := _ }) (v := .pointer (some ⟨bb, 2, none⟩)) rfl (by kernel_rfl) (by kernel_rfl) (by kernel_rfl) (fun _ _ _ h => h) (Or.inl ⟨by rfl, by (intro w hSw; (try dsimp only at hSw); first | (go_simp; done) | (go_simp; with_reducible rfl) | (go_simp; omega) | (go_simp; simp [*]; done))⟩) (by assumption) ?_; try simp only [Act.put, List.setIfInBounds_toArray, List.set_cons_zero, List.set_cons_succ]
          refine wpAnyH_take (i := 2) (oi := { dst := some 41, op := _, type := _, pos := _, after := _, guard := _ }) (v := .pointer (some ⟨w.heap.size, 0, none⟩)) rfl (by kernel_rfl) (by kernel_rfl) (by kernel_rfl) (fun _ _ _ h => h) (Or.inl ⟨by rfl, by (intro w hSw; (try dsimp only at hSw); first | (go_simp; done) | (go_simp; with_reducible rfl) | (go_simp; omega) | (go_simp; simp [*]; done))⟩) (by assumption) ?_; try simp only [Act.put, List.setIfInBounds_toArray, List.set_cons_zero, List.set_cons_succ]
          refine wpAnyH_take (i := 3) (oi := { dst := some 42, op := _, type := _, pos := _, after := _, guard := _ }) (v := .slice (some ad) bs.length c) rfl (by kernel_rfl) (by kernel_rfl) (by kernel_rfl) (fun _ _ _ h => h) (Or.inl ⟨by rfl, by (intro w hSw; (try dsimp only at hSw); first | (go_simp; done) | (go_simp; with_reducible rfl) | (go_simp; omega) | (go_simp; simp [*]; done))⟩) (by assumption) ?_; try simp only [Act.put, List.setIfInBounds_toArray, List.set_cons_zero, List.set_cons_succ]
          refine wpAnyH_take (i := 4) (oi := { dst := some 43, op := _, type := _, pos := _, after := _, guard := _ }) (v := .int .i64 k) rfl (by kernel_rfl) (by kernel_rfl) (by kernel_rfl) (fun _ _ _ h => h) (Or.inl ⟨by rfl, by (intro w hSw; (try dsimp only at hSw); first | (go_simp; done) | (go_simp; with_reducible rfl) | (go_simp; omega) | (go_simp; simp [*]; done))⟩) (by assumption) ?_; try simp only [Act.put, List.setIfInBounds_toArray, List.set_cons_zero, List.set_cons_succ]
          refine wpAnyH_take (i := 5) (oi := { dst := some 44, op := _, type := _, pos := _, after := _, guard := _ }) (v := .pointer (some (ad.add (k * 3)))) rfl (by kernel_rfl) (by kernel_rfl) (by kernel_rfl) (fun _ _ _ h => h) (Or.inl ⟨by rfl, by (intro w hSw; (try dsimp only at hSw); first | (go_simp; done) | (go_simp; with_reducible rfl) | (go_simp; omega) | (go_simp; simp [*]; done))⟩) (by assumption) ?_; try simp only [Act.put, List.setIfInBounds_toArray, List.set_cons_zero, List.set_cons_succ]
          refine wpAnyH_take (i := 6) (oi := { dst := some 45, op := _, type := _, pos := _, after := _, guard := _ }) (v := .pointer (some ⟨(ad.add (k * 3)).block, (ad.add (k * 3)).off + 2, none⟩)) rfl (by kernel_rfl) (by kernel_rfl) (by kernel_rfl) (fun _ _ _ h => h) (Or.inl ⟨by rfl, by (intro w hSw; (try dsimp only at hSw); first | (go_simp; done) | (go_simp; with_reducible rfl) | (go_simp; omega) | (go_simp; simp [*]; done))⟩) (by assumption) ?_; try simp only [Act.put, List.setIfInBounds_toArray, List.set_cons_zero, List.set_cons_succ]
          refine wpAnyH_take (i := 7) (oi := { dst := some 46, op := _, type := _, pos := _, after := _, guard := _ }) (v := .slice (some ad2) l.length ce) rfl (by kernel_rfl) (by kernel_rfl) (by kernel_rfl) (fun _ _ _ h => h) (Or.inl ⟨by rfl, by (intro w hSw; (try dsimp only at hSw); first | (go_simp; done) | (go_simp; with_reducible rfl) | (go_simp; omega) | (go_simp; simp [*]; done))⟩) (by assumption) ?_; try simp only [Act.put, List.setIfInBounds_toArray, List.set_cons_zero, List.set_cons_succ]
          refine wpAnyH_take (i := 8) (oi := { dst := some 47, op := _, type := _, pos := _, after := _, guard := _ }) (v := .int .i64 j) rfl (by kernel_rfl) (by kernel_rfl) (by kernel_rfl) (fun _ _ _ h => h) (Or.inl ⟨by rfl, by (intro w hSw; (try dsimp only at hSw); first | (go_simp; done) | (go_simp; with_reducible rfl) | (go_simp; omega) | (go_simp; simp [*]; done))⟩) (by assumption) ?_; try simp only [Act.put, List.setIfInBounds_toArray, List.set_cons_zero, List.set_cons_succ]
          refine wpAnyH_take (i := 9) (oi := { dst := some 48, op := _, type := _, pos := _, after := _, guard := _ }) (v := .pointer (some (ad2.add (j * 3)))) rfl (by kernel_rfl) (by kernel_rfl) (by kernel_rfl) (fun _ _ _ h => h) (Or.inl ⟨by rfl, by (intro w hSw; (try dsimp only at hSw); first | (go_simp; done) | (go_simp; with_reducible rfl) | (go_simp; omega) | (go_simp; simp [*]; done))⟩) (by assumption) ?_; try simp only [Act.put, List.setIfInBounds_toArray, List.set_cons_zero, List.set_cons_succ]
          refine wpAnyH_take (i := 10) (oi := { dst := some 49, op := _, type := _, pos := _, after := _, guard := _ }) (v := .agg #[.int .i64 x.uid, .int .i64 x.flags, .string x.text]) rfl (by kernel_rfl) (by kernel_rfl) (by kernel_rfl) (fun _ _ _ h => h) (Or.inl ⟨by rfl, by (intro w hSw; (try dsimp only at hSw); first | (go_simp; done) | (go_simp; with_reducible rfl) | (go_simp; omega) | (go_simp; simp [*]; done))⟩) (by assumption) ?_; try simp only [Act.put, List.setIfInBounds_toArray, List.set_cons_zero, List.set_cons_succ]
          refine wpAnyH_ready (rs := [1, 11]) (by kernel_rfl) (by simp) ?_
          refine AllReadyH.cons (o := { dst := some 40, op := _, type := _, pos := _, after := _, guard := _ }) rfl (fun K hK => ?_) (AllReadyH.cons (o := { dst := some 50, op := _, type := _, pos := _, after := _, guard := _ }) rfl (fun K hK => ?_) AllReadyH.nil)
          · go_simp
            refine hK.out _ _ ⟨p0d, x2d, q0d, q1d, q2d⟩ (fun hHeld => ?_)
            clear hK K
            refine wpAnyH_ready (rs := [11]) (by kernel_rfl) (by simp) ?_
            refine AllReadyH.cons (o := { dst := some 50, op := _, type := _, pos := _, after := _, guard := _ }) rfl (fun K hK => ?_) AllReadyH.nil
            go_simp
            refine hK.out _ _ ⟨cell_alloc' p0d _, cell_alloc' x2d _, cell_alloc' q0d _, cell_alloc' q1d _, cell_alloc' q2d _⟩ (fun hHeld => ?_)
            clear hK K
            refine wpAnyH_ready (rs := [12]) (by kernel_rfl) (by simp) ?_
            refine AllReadyH.cons (o := { dst := some 51, op := _, type := _, pos := _, after := _, guard := _ }) rfl (fun K hK => ?_) AllReadyH.nil
            refine mail_step (bb + 1) (by rfl) (.tmp 40) (.tmp 50) (by rfl) (.slice A5 j c5) (l.take j) x (fun _ => True) (by rfl) (by rfl) (fun _ _ => trivial) hMd (by simp; omega) (by rw [hlj.out]; omega) ?_
            intro v1 w6 hM6 hb6 hg6
            obtain ⟨A6, c6, h6⟩ := Kd.R_slice hM6
            rw [List.length_append, hlj.out] at h6
            subst h6
            have hz6 := hb6.size
            simp at hz6
            have k0 := (hb6.cell (p := ⟨w.heap.size, 0, none⟩) (by show w.heap.size < bb + 1; omega)).trans p0d
            have k1 := (hb6.cell (p := ⟨(ad.add (k * 3)).block, (ad.add (k * 3)).off + 2, none⟩) hadb').trans x2d
            have k2 := (hb6.cell (p := ad2.add (j * 3)) had2').trans q0d
            have k3 := (hb6.cell (p := ⟨(ad2.add (j * 3)).block, (ad2.add (j * 3)).off + 1, none⟩) had2').trans q1d
            have k4 := (hb6.cell (p := ⟨(ad2.add (j * 3)).block, (ad2.add (j * 3)).off + 2, none⟩) had2').trans q2d
            have hX6 := hXd.below hb6 (by omega)
            have t0 := hX6.at 2 _ rfl
            have t1 := hX6.free 2 _ rfl
            refine hK.out _ _ ⟨k0, k1, k2, k3, k4⟩ (fun hHeld => ?_)
            clear hK K
            refine wpAnyH_take (i := 13) (oi := { dst := some 52, op := _, type := _, pos := _, after := _, guard := _ }) (v := .pointer (some ⟨bb, 2, none⟩)) rfl (by kernel_rfl) (by kernel_rfl) (by kernel_rfl) (fun _ _ _ h => h) (Or.inl ⟨by rfl, by (intro w hSw; (try dsimp only at hSw); first | (go_simp; done) | (go_simp; with_reducible rfl) | (go_simp; omega) | (go_simp; simp [*]; done))⟩) (by assumption) ?_; try simp only [Act.put, List.setIfInBounds_toArray, List.set_cons_zero, List.set_cons_succ]
            refine wpAnyH_ready (rs := [14]) (by kernel_rfl) (by simp) ?_
            refine AllReadyH.cons (o := { dst := none, op := _, type := _, pos := _, after := _, guard := _ }) rfl (fun K hK => ?_) AllReadyH.nil
            go_simp
            refine hK.out _ _ ⟨cell_other' k0 (c := bb) (j := 2) n0 _, cell_other' k1 (c := bb) (j := 2) n1 _, cell_other' k2 (c := bb) (j := 2) n2 _, cell_other' k3 (c := bb) (j := 2) n2 _, cell_other' k4 (c := bb) (j := 2) n2 _⟩ (fun hHeld => ?_)
            clear hK K
            refine wpAnyH_done (by kernel_rfl) ?_ _
            go_wp2_with fail
            go_roundw
            case rel => exact ⟨j + 1, _, hlj2, by go_num, by rw [htj.out]; exact R_elder hM6 (show bb < bb + 1 by omega) _, hX6.set 2 _ (by simp), Below.setCell (Below.trans hBz (Below.mono (Below.trans (below_drew (Below.refl (bb + 1) wr)) hb6) (Nat.le_succ _))) (show bb ≤ bb from Nat.le_refl _) _⟩
            case measure => simp [intOf]; omega
          · go_simp
            refine hK.out _ _ ⟨cell_alloc' p0d _, cell_alloc' x2d _, cell_alloc' q0d _, cell_alloc' q1d _, cell_alloc' q2d _⟩ (fun hHeld => ?_)
            clear hK K
            refine wpAnyH_ready (rs := [1]) (by kernel_rfl) (by simp) ?_
            refine AllReadyH.cons (o := { dst := some 40, op := _, type := _, pos := _, after := _, guard := _ }) rfl (fun K hK => ?_) AllReadyH.nil
            go_simp
            refine hK.out _ _ ⟨cell_alloc' p0d _, cell_alloc' x2d _, cell_alloc' q0d _, cell_alloc' q1d _, cell_alloc' q2d _⟩ (fun hHeld => ?_)
            clear hK K
            refine wpAnyH_ready (rs := [12]) (by kernel_rfl) (by simp) ?_
            refine AllReadyH.cons (o := { dst := some 51, op := _, type := _, pos := _, after := _, guard := _ }) rfl (fun K hK => ?_) AllReadyH.nil
            refine mail_step (bb + 1) (by rfl) (.tmp 40) (.tmp 50) (by rfl) (.slice A5 j c5) (l.take j) x (fun _ => True) (by rfl) (by rfl) (fun _ _ => trivial) hMd (by simp; omega) (by rw [hlj.out]; omega) ?_
            intro v1 w6 hM6 hb6 hg6
            obtain ⟨A6, c6, h6⟩ := Kd.R_slice hM6
            rw [List.length_append, hlj.out] at h6
            subst h6
            have hz6 := hb6.size
            simp at hz6
            have k0 := (hb6.cell (p := ⟨w.heap.size, 0, none⟩) (by show w.heap.size < bb + 1; omega)).trans p0d
            have k1 := (hb6.cell (p := ⟨(ad.add (k * 3)).block, (ad.add (k * 3)).off + 2, none⟩) hadb').trans x2d
            have k2 := (hb6.cell (p := ad2.add (j * 3)) had2').trans q0d
            have k3 := (hb6.cell (p := ⟨(ad2.add (j * 3)).block, (ad2.add (j * 3)).off + 1, none⟩) had2').trans q1d
            have k4 := (hb6.cell (p := ⟨(ad2.add (j * 3)).block, (ad2.add (j * 3)).off + 2, none⟩) had2').trans q2d
            have hX6 := hXd.below hb6 (by omega)
            have t0 := hX6.at 2 _ rfl
            have t1 := hX6.free 2 _ rfl
            refine hK.out _ _ ⟨k0, k1, k2, k3, k4⟩ (fun hHeld => ?_)
            clear hK K
            refine wpAnyH_take (i := 13) (oi := { dst := some 52, op := _, type := _, pos := _, after := _, guard := _ }) (v := .pointer (some ⟨bb, 2, none⟩)) rfl (by kernel_rfl) (by kernel_rfl) (by kernel_rfl) (fun _ _ _ h => h) (Or.inl ⟨by rfl, by (intro w hSw; (try dsimp only at hSw); first | (go_simp; done) | (go_simp; with_reducible rfl) | (go_simp; omega) | (go_simp; simp [*]; done))⟩) (by assumption) ?_; try simp only [Act.put, List.setIfInBounds_toArray, List.set_cons_zero, List.set_cons_succ]
            refine wpAnyH_ready (rs := [14]) (by kernel_rfl) (by simp) ?_
            refine AllReadyH.cons (o := { dst := none, op := _, type := _, pos := _, after := _, guard := _ }) rfl (fun K hK => ?_) AllReadyH.nil
            go_simp
            refine hK.out _ _ ⟨cell_other' k0 (c := bb) (j := 2) n0 _, cell_other' k1 (c := bb) (j := 2) n1 _, cell_other' k2 (c := bb) (j := 2) n2 _, cell_other' k3 (c := bb) (j := 2) n2 _, cell_other' k4 (c := bb) (j := 2) n2 _⟩ (fun hHeld => ?_)
            clear hK K
            refine wpAnyH_done (by kernel_rfl) ?_ _
            go_wp2_with fail
            go_roundw
            case rel => exact ⟨j + 1, _, hlj2, by go_num, by rw [htj.out]; exact R_elder hM6 (show bb < bb + 1 by omega) _, hX6.set 2 _ (by simp), Below.setCell (Below.trans hBz (Below.mono (Below.trans (below_drew (Below.refl (bb + 1) wr)) hb6) (Nat.le_succ _))) (show bb ≤ bb from Nat.le_refl _) _⟩
            case measure => simp [intOf]; omega
        · obtain rfl : j = l.length := by omega
          rw [List.take_length] at hM
          obtain ⟨Am, cm, rfl⟩ := Kd.R_slice hM
          have hBW : Below W0.heap.size W0 wr := by rw [← hbb.out]; exact hBz
          have h3z : w.heap.size + 1 + 1 + 1 ≤ bb := by have := hbb.out; omega
          have hO1 := hO.below hBz (by omega)
          have o0 := hO1.at 0 _ rfl
          have o1 := hO1.free 0 _ rfl
          have y0 := hX.at 0 _ rfl
          have y1 := hX.at 1 _ rfl
          have y2 := hX.at 2 _ rfl
          have j1 : ¬ (l.length : Int) < (l.length : Int) := by omega
          have hS2 : Kd.S kBox 77 wr (w.heap.size + 1 + 1 + 1) (fun k => k < bb + 1) (.slice Ab k cb) (bs.take k) := Kd.S_mono (S_since hS hBW) (fun k hk => by have h1 := hbb.out; have h2 : k < W0.heap.size := hk; show k < bb + 1; omega)
          have hB2 := hB.trans (hBW.mono (by have := hbb.out; omega))
          go_wp2_with (at_builtin; refine snocS_list (w.heap.size + 1 + 1 + 1) (bb + 1) rfl _ _ rfl (.slice Ab k cb) (bs.take k) nm nx l (.slice Am l.length cm) (by first | rfl | (simp [Act.eval]; done)) (by first | rfl | (simp [Act.eval]; done)) hM (by omega) hS2 (by omega) (by rw [hlk.out]; omega) ?_)
          intro v9 w9 hS9 hb9
          have hz9 := hb9.size
          have hO9 := hO1.below hb9 (by omega)
          have hP9 := (hP.below hBz (by omega)).below hb9 (by omega)
          have hQ9 := (hQ.below hBz (by omega)).below hb9 (by omega)
          have g0 := hO9.at 0 _ rfl
          have g1 := hO9.free 0 _ rfl
          have hB9 : Below w.heap.size w w9 := hB2.trans (hb9.mono (by omega))
          clear o0 o1 y0 y1 y2 hO1 hX hS2 hM hb9
          obtain ⟨A9, c9, h9⟩ := Kd.S_slice hS9
          rw [List.length_append, hlk.out] at h9
          subst h9
          go_wp2_with fail
          go_roundw
          case rel => exact ⟨k + 1, _, hlt, by go_num, by rw [htk.out]; exact S_elder hS9 (by show w.heap.size + 1 + 1 < w.heap.size + 1 + 1 + 1; omega) _, hP9.other (by omega) _, hQ9.other (by omega) _, hO9.set 0 _ (by simp), by simp; omega, Below.setCell hB9 (by show w.heap.size ≤ w.heap.size + 1 + 1; omega) _⟩
          case measure => simp [intOf]; omega
    · obtain rfl : k = bs.length := by omega
      rw [List.take_length] at hS
      have i1 : ¬ (bs.length : Int) < (bs.length : Int) := by omega
      obtain ⟨Ab, cb, rfl⟩ := Kd.S_slice hS
      have p1 := hP.at 1 _ rfl
      obtain ⟨bb, hbb⟩ : ∃ bb, bb = wr.heap.size := ⟨_, rfl⟩
      have hz4 : w.heap.size + 1 + 1 + 1 ≤ bb := by omega
      have hS4 : Kd.S kBox 77 wr (w.heap.size + 1 + 1 + 1) (fun k => k < bb ∧ k ≠ w.heap.size + 1 + 1) (.slice Ab bs.length cb) bs := Kd.S_mono (Kd.S_bound hS) (fun k hk => ⟨by rw [hbb]; exact hk.2.2.1, by have := hk.2.1; omega⟩)
      have hbl : bb ≤ wr.heap.size := by omega
      have hb0 : Kd.R kAEntry 40 wr bb (fun _ => True) (.slice none 0 0) (es.take 0) := Kd.R_nil _ _ _ _ _
      clear hbb hS hz
      go_wp2_with fail
      go_loopw [7] (fun i wz => ∃ (k : Nat) (vS : Value), k ≤ es.length ∧ i = .int .i64 k ∧ Kd.R kAEntry 40 wz bb (fun _ => True) vS (es.take k) ∧ Kd.S kBox 77 wz (w.heap.size + 1 + 1 + 1) (fun k => k < bb ∧ k ≠ w.heap.size + 1 + 1) (.slice Ab bs.length cb) bs ∧ Blk wz w.heap.size [.slice A bs.length c, .slice A2 es.length c2] ∧ Blk wz (w.heap.size + 1) [.slice none 0 0, .slice none 0 0] ∧ Blk wz (w.heap.size + 1 + 1) [.slice Ab bs.length cb, vS] ∧ bb ≤ wz.heap.size ∧ Below w.heap.size w wz) (fun i _ => es.length - (intOf i).toNat)
      case atStart => exact ⟨0, _, Nat.zero_le _, rfl, hb0, hS4, hP, hQ, hO, hbl, hB⟩
      case round =>
        clear hb0 hS4 hP hQ hO hbl hB p0 p1
        obtain ⟨k, vS, hk, rfl, hR, hS, hP, hQ, hO, hbl, hB⟩ := hrel
        have p1 := hP.at 1 _ rfl
        by_cases hlt : k < es.length
        · obtain ⟨ad, e1, hx0, hxj⟩ := flat_at (Kd.C_below hr2 hB) k hlt
          subst e1
          have hadw : (ad.add (k * 6)).block < w.heap.size := by
            obtain ⟨ad3, e3, hx3, _⟩ := flat_at hr2 k hlt
            obtain rfl := Option.some.inj e3
            exact lt_of_cell' (hx3 _ rfl)
          have q0 := hx0 _ rfl; have q1 := hxj 1 _ (by decide) rfl; have q2 := hxj 2 _ (by decide) rfl; have q3 := hxj 3 _ (by decide) rfl; have q4 := hxj 4 _ (by decide) rfl; have q5 := hxj 5 _ (by decide) rfl
          clear hx0 hxj
          have htk := Lib.hid (List.take_succ_eq_append_getElem hlt)
          obtain ⟨A5, c5, rfl⟩ := Kd.R_slice hR
          have hlk : (es.take k).length = k := by rw [List.length_take]; omega
          rw [hlk] at hR hO
          replace hlk := Lib.hid hlk
          have i0 : (0 : Int) ≤ (k : Int) := by omega
          have i1 : (k : Int) < (es.length : Int) := by omega
          generalize es[k] = x at *
          have n1 : (ad.add (k * 6)).block ≠ w.heap.size + 1 + 1 := by omega
          have n0 : w.heap.size ≠ w.heap.size + 1 + 1 := by omega
          have p1d := cell_drew' p1
          have q0d := cell_drew' q0
          have q1d := cell_drew' q1
          have q2d := cell_drew' q2
          have q3d := cell_drew' q3
          have q4d := cell_drew' q4
          have q5d := cell_drew' q5
          have hPd := hP.drew
          have hQd := hQ.drew
          have hOd := hO.drew
          have hRd := Kd.R_drew hR
          have hSd := Kd.S_drew hS
          have hBd := below_drew hB
          have o2d := hO.at 1 _ rfl
          have o2a := cell_alloc' o2d (.cells #[.int .i64 x.kind, .string x.box, .int .i64 x.uid, .int .i64 x.flags, .string x.to_, .string x.text] 40)
          go_wp2_with fail
          refine wp_region_held_drew (S := fun w' => w'.cell? ⟨w.heap.size, 1, none⟩ = some (.slice (some ad) es.length c2) ∧ w'.cell? (ad.add (k * 6)) = some (.int .i64 x.kind) ∧ w'.cell? ⟨(ad.add (k * 6)).block, (ad.add (k * 6)).off + 1, none⟩ = some (.string x.box) ∧ w'.cell? ⟨(ad.add (k * 6)).block, (ad.add (k * 6)).off + 2, none⟩ = some (.int .i64 x.uid) ∧ w'.cell? ⟨(ad.add (k * 6)).block, (ad.add (k * 6)).off + 3, none⟩ = some (.int .i64 x.flags) ∧ w'.cell? ⟨(ad.add (k * 6)).block, (ad.add (k * 6)).off + 4, none⟩ = some (.string x.to_) ∧ w'.cell? ⟨(ad.add (k * 6)).block, (ad.add (k * 6)).off + 5, none⟩ = some (.string x.text)) (by kernel_rfl) ?_ (fun hHeld => ?_)
          · exact ⟨p1d, q0d, q1d, q2d, q3d, q4d, q5d⟩
          refine wpAnyH_take (i := 0) (oi := { dst := some 66, op := _, type := _, pos := _, after := _, guard := _ }) (v := .pointer (some ⟨w.heap.size + 1 + 1, 1, none⟩)) rfl (by kernel_rfl) (by kernel_rfl) (by kernel_rfl) (fun _ _ _ h => h) (Or.inl ⟨by rfl, by (intro w hSw; (try dsimp only at hSw); first | (go_simp; done) | (go_simp; with_reducible rfl) | (go_simp; omega) | (go_simp; simp [*]; done))⟩) (by assumption) ?_; try simp only [Act.put, List.setIfInBounds_toArray, List.set_cons_zero, List.set_cons_succ]
          refine wpAnyH_take (i := 2) (oi := { dst := some 68, op := _, type := _, pos := _, after := _, guard := _ }) (v := .pointer (some ⟨w.heap.size, 1, none⟩)) rfl (by kernel_rfl) (by kernel_rfl) (by kernel_rfl) (fun _ _ _ h => h) (Or.inl ⟨by rfl, by (intro w hSw; (try dsimp only at hSw); first | (go_simp; done) | (go_simp; with_reducible rfl) | (go_simp; omega) | (go_simp; simp [*]; done))⟩) (by assumption) ?_; try simp only [Act.put, List.setIfInBounds_toArray, List.set_cons_zero, List.set_cons_succ]
          refine wpAnyH_take (i := 3) (oi := { dst := some 69, op := _, type := _, pos := _, after := _, guard := _ }) (v := .slice (some ad) es.length c2) rfl (by kernel_rfl) (by kernel_rfl) (by kernel_rfl) (fun _ _ _ h => h) (Or.inl ⟨by rfl, by (intro w hSw; (try dsimp only at hSw); first | (go_simp; done) | (go_simp; with_reducible rfl) | (go_simp; omega) | (go_simp; simp [*]; done))⟩) (by assumption) ?_; try simp only [Act.put, List.setIfInBounds_toArray, List.set_cons_zero, List.set_cons_succ]
          refine wpAnyH_take (i := 4) (oi := { dst := some 70, op := _, type := _, pos := _, after := _, guard := _ }) (v := .int .i64 k) rfl (by kernel_rfl) (by kernel_rfl) (by kernel_rfl) (fun _ _ _ h => h) (Or.inl ⟨by rfl, by (intro w hSw; (try dsimp only at hSw); first | (go_simp; done) | (go_simp; with_reducible rfl) | (go_simp; omega) | (go_simp; simp [*]; done))⟩) (by assumption) ?_; try simp only [Act.put, List.setIfInBounds_toArray, List.set_cons_zero, List.set_cons_succ]
          refine wpAnyH_take (i := 5) (oi := { dst := some 71, op := _, type := _, pos := _, after := _, guard := _ }) (v := .pointer (some (ad.add (k * 6)))) rfl (by kernel_rfl) (by kernel_rfl) (by kernel_rfl) (fun _ _ _ h => h) (Or.inl ⟨by rfl, by (intro w hSw; (try dsimp only at hSw); first | (go_simp; done) | (go_simp; with_reducible rfl) | (go_simp; omega) | (go_simp; simp [*]; done))⟩) (by assumption) ?_; try simp only [Act.put, List.setIfInBounds_toArray, List.set_cons_zero, List.set_cons_succ]
          refine wpAnyH_take (i := 6) (oi := { dst := some 72, op := _, type := _, pos := _, after := _, guard := _ }) (v := .agg #[.int .i64 x.kind, .string x.box, .int .i64 x.uid, .int .i64 x.flags, .string x.to_, .string x.text]) rfl (by kernel_rfl) (by kernel_rfl) (by kernel_rfl) (fun _ _ _ h => h) (Or.inl ⟨by rfl, by (intro w hSw; (try dsimp only at hSw); first | (go_simp; done) | (go_simp; with_reducible rfl) | (go_simp; omega) | (go_simp; simp [*]; done))⟩) (by assumption) ?_; try simp only [Act.put, List.setIfInBounds_toArray, List.set_cons_zero, List.set_cons_succ]
          refine wpAnyH_ready (rs := [1, 7]) (by kernel_rfl) (by simp) ?_
          refine AllReadyH.cons (o := { dst := some 67, op := _, type := _, pos := _, after := _, guard := _ }) rfl (fun K hK => ?_) (AllReadyH.cons (o := { dst := some 73, op := _, type := _, pos := _, after := _, guard := _ }) rfl (fun K hK => ?_) AllReadyH.nil)
          · go_simp
            refine hK.out _ _ ⟨p1d, q0d, q1d, q2d, q3d, q4d, q5d⟩ (fun hHeld => ?_)
            clear hK K
            refine wpAnyH_ready (rs := [7]) (by kernel_rfl) (by simp) ?_
            refine AllReadyH.cons (o := { dst := some 73, op := _, type := _, pos := _, after := _, guard := _ }) rfl (fun K hK => ?_) AllReadyH.nil
            go_simp
            refine hK.out _ _ ⟨cell_alloc' p1d _, cell_alloc' q0d _, cell_alloc' q1d _, cell_alloc' q2d _, cell_alloc' q3d _, cell_alloc' q4d _, cell_alloc' q5d _⟩ (fun hHeld => ?_)
            clear hK K
            refine wpAnyH_ready (rs := [8]) (by kernel_rfl) (by simp) ?_
            refine AllReadyH.cons (o := { dst := some 74, op := _, type := _, pos := _, after := _, guard := _ }) rfl (fun K hK => ?_) AllReadyH.nil
            refine entry_step bb (by rfl) (.tmp 67) (.tmp 73) (by rfl) (.slice A5 k c5) (es.take k) x (fun _ => True) (by rfl) (by rfl) (fun _ _ => trivial) hRd (by simp; omega) (by rw [hlk.out]; omega) ?_
            intro v1 w6 hR6 hb6 hg6
            obtain ⟨A6, c6, h6⟩ := Kd.R_slice hR6
            rw [List.length_append, hlk.out] at h6
            subst h6
            have hz6 := hb6.size
            simp at hz6
            have hP6 := hPd.below hb6 (by omega)
            have hQ6 := hQd.below hb6 (by omega)
            have hO6 := hOd.below hb6 (by omega)
            have k1 := hP6.at 1 _ rfl
            have hadb : (ad.add (k * 6)).block < bb := by omega
            have r0 := (hb6.cell (p := ad.add (k * 6)) hadb).trans q0d
            have r1 := (hb6.cell (p := ⟨(ad.add (k * 6)).block, (ad.add (k * 6)).off + 1, none⟩) hadb).trans q1d
            have r2 := (hb6.cell (p := ⟨(ad.add (k * 6)).block, (ad.add (k * 6)).off + 2, none⟩) hadb).trans q2d
            have r3 := (hb6.cell (p := ⟨(ad.add (k * 6)).block, (ad.add (k * 6)).off + 3, none⟩) hadb).trans q3d
            have r4 := (hb6.cell (p := ⟨(ad.add (k * 6)).block, (ad.add (k * 6)).off + 4, none⟩) hadb).trans q4d
            have r5 := (hb6.cell (p := ⟨(ad.add (k * 6)).block, (ad.add (k * 6)).off + 5, none⟩) hadb).trans q5d
            have t0 := hO6.at 1 _ rfl
            have t1 := hO6.free 1 _ rfl
            refine hK.out _ _ ⟨k1, r0, r1, r2, r3, r4, r5⟩ (fun hHeld => ?_)
            clear hK K
            refine wpAnyH_take (i := 9) (oi := { dst := some 75, op := _, type := _, pos := _, after := _, guard := _ }) (v := .pointer (some ⟨w.heap.size + 1 + 1, 1, none⟩)) rfl (by kernel_rfl) (by kernel_rfl) (by kernel_rfl) (fun _ _ _ h => h) (Or.inl ⟨by rfl, by (intro w hSw; (try dsimp only at hSw); first | (go_simp; done) | (go_simp; with_reducible rfl) | (go_simp; omega) | (go_simp; simp [*]; done))⟩) (by assumption) ?_; try simp only [Act.put, List.setIfInBounds_toArray, List.set_cons_zero, List.set_cons_succ]
            refine wpAnyH_ready (rs := [10]) (by kernel_rfl) (by simp) ?_
            refine AllReadyH.cons (o := { dst := none, op := _, type := _, pos := _, after := _, guard := _ }) rfl (fun K hK => ?_) AllReadyH.nil
            go_simp
            refine hK.out _ _ ⟨cell_other' k1 (c := w.heap.size + 1 + 1) (j := 1) n0 _, cell_other' r0 (c := w.heap.size + 1 + 1) (j := 1) n1 _, cell_other' r1 (c := w.heap.size + 1 + 1) (j := 1) n1 _, cell_other' r2 (c := w.heap.size + 1 + 1) (j := 1) n1 _, cell_other' r3 (c := w.heap.size + 1 + 1) (j := 1) n1 _, cell_other' r4 (c := w.heap.size + 1 + 1) (j := 1) n1 _, cell_other' r5 (c := w.heap.size + 1 + 1) (j := 1) n1 _⟩ (fun hHeld => ?_)
            clear hK K
            refine wpAnyH_done (by kernel_rfl) ?_ _
            have hS6 := Kd.S_far (p := ⟨w.heap.size + 1 + 1, 1, none⟩) (Kd.S_step hSd (fun k hk _ => hb6.block k hk.1)) (fun k hk => hk.2) (.slice A6 (k + 1) c6)
            have hB6 := Below.setCell (p := ⟨w.heap.size + 1 + 1, 1, none⟩) (Below.trans hBd (hb6.mono (by omega))) (show w.heap.size ≤ w.heap.size + 1 + 1 by omega) (.slice A6 (k + 1) c6)
            go_wp2_with fail
            go_roundw
            case rel => exact ⟨k + 1, _, hlt, by go_num, by rw [htk.out]; exact R_elder hR6 (show w.heap.size + 1 + 1 < bb by omega) _, hS6, hP6.other (by omega) _, hQ6.other (by omega) _, hO6.set 1 _ (by simp), by simp; omega, hB6⟩
            case measure => simp [intOf]; omega
          · go_simp
            refine hK.out _ _ ⟨cell_alloc' p1d _, cell_alloc' q0d _, cell_alloc' q1d _, cell_alloc' q2d _, cell_alloc' q3d _, cell_alloc' q4d _, cell_alloc' q5d _⟩ (fun hHeld => ?_)
            clear hK K
            refine wpAnyH_ready (rs := [1]) (by kernel_rfl) (by simp) ?_
            refine AllReadyH.cons (o := { dst := some 67, op := _, type := _, pos := _, after := _, guard := _ }) rfl (fun K hK => ?_) AllReadyH.nil
            go_simp
            refine hK.out _ _ ⟨cell_alloc' p1d _, cell_alloc' q0d _, cell_alloc' q1d _, cell_alloc' q2d _, cell_alloc' q3d _, cell_alloc' q4d _, cell_alloc' q5d _⟩ (fun hHeld => ?_)
            clear hK K
            refine wpAnyH_ready (rs := [8]) (by kernel_rfl) (by simp) ?_
            refine AllReadyH.cons (o := { dst := some 74, op := _, type := _, pos := _, after := _, guard := _ }) rfl (fun K hK => ?_) AllReadyH.nil
            refine entry_step bb (by rfl) (.tmp 67) (.tmp 73) (by rfl) (.slice A5 k c5) (es.take k) x (fun _ => True) (by rfl) (by rfl) (fun _ _ => trivial) hRd (by simp; omega) (by rw [hlk.out]; omega) ?_
            intro v1 w6 hR6 hb6 hg6
            obtain ⟨A6, c6, h6⟩ := Kd.R_slice hR6
            rw [List.length_append, hlk.out] at h6
            subst h6
            have hz6 := hb6.size
            simp at hz6
            have hP6 := hPd.below hb6 (by omega)
            have hQ6 := hQd.below hb6 (by omega)
            have hO6 := hOd.below hb6 (by omega)
            have k1 := hP6.at 1 _ rfl
            have hadb : (ad.add (k * 6)).block < bb := by omega
            have r0 := (hb6.cell (p := ad.add (k * 6)) hadb).trans q0d
            have r1 := (hb6.cell (p := ⟨(ad.add (k * 6)).block, (ad.add (k * 6)).off + 1, none⟩) hadb).trans q1d
            have r2 := (hb6.cell (p := ⟨(ad.add (k * 6)).block, (ad.add (k * 6)).off + 2, none⟩) hadb).trans q2d
            have r3 := (hb6.cell (p := ⟨(ad.add (k * 6)).block, (ad.add (k * 6)).off + 3, none⟩) hadb).trans q3d
            have r4 := (hb6.cell (p := ⟨(ad.add (k * 6)).block, (ad.add (k * 6)).off + 4, none⟩) hadb).trans q4d
            have r5 := (hb6.cell (p := ⟨(ad.add (k * 6)).block, (ad.add (k * 6)).off + 5, none⟩) hadb).trans q5d
            have t0 := hO6.at 1 _ rfl
            have t1 := hO6.free 1 _ rfl
            refine hK.out _ _ ⟨k1, r0, r1, r2, r3, r4, r5⟩ (fun hHeld => ?_)
            clear hK K
            refine wpAnyH_take (i := 9) (oi := { dst := some 75, op := _, type := _, pos := _, after := _, guard := _ }) (v := .pointer (some ⟨w.heap.size + 1 + 1, 1, none⟩)) rfl (by kernel_rfl) (by kernel_rfl) (by kernel_rfl) (fun _ _ _ h => h) (Or.inl ⟨by rfl, by (intro w hSw; (try dsimp only at hSw); first | (go_simp; done) | (go_simp; with_reducible rfl) | (go_simp; omega) | (go_simp; simp [*]; done))⟩) (by assumption) ?_; try simp only [Act.put, List.setIfInBounds_toArray, List.set_cons_zero, List.set_cons_succ]
            refine wpAnyH_ready (rs := [10]) (by kernel_rfl) (by simp) ?_
            refine AllReadyH.cons (o := { dst := none, op := _, type := _, pos := _, after := _, guard := _ }) rfl (fun K hK => ?_) AllReadyH.nil
            go_simp
            refine hK.out _ _ ⟨cell_other' k1 (c := w.heap.size + 1 + 1) (j := 1) n0 _, cell_other' r0 (c := w.heap.size + 1 + 1) (j := 1) n1 _, cell_other' r1 (c := w.heap.size + 1 + 1) (j := 1) n1 _, cell_other' r2 (c := w.heap.size + 1 + 1) (j := 1) n1 _, cell_other' r3 (c := w.heap.size + 1 + 1) (j := 1) n1 _, cell_other' r4 (c := w.heap.size + 1 + 1) (j := 1) n1 _, cell_other' r5 (c := w.heap.size + 1 + 1) (j := 1) n1 _⟩ (fun hHeld => ?_)
            clear hK K
            refine wpAnyH_done (by kernel_rfl) ?_ _
            have hS6 := Kd.S_far (p := ⟨w.heap.size + 1 + 1, 1, none⟩) (Kd.S_step hSd (fun k hk _ => hb6.block k hk.1)) (fun k hk => hk.2) (.slice A6 (k + 1) c6)
            have hB6 := Below.setCell (p := ⟨w.heap.size + 1 + 1, 1, none⟩) (Below.trans hBd (hb6.mono (by omega))) (show w.heap.size ≤ w.heap.size + 1 + 1 by omega) (.slice A6 (k + 1) c6)
            go_wp2_with fail
            go_roundw
            case rel => exact ⟨k + 1, _, hlt, by go_num, by rw [htk.out]; exact R_elder hR6 (show w.heap.size + 1 + 1 < bb by omega) _, hS6, hP6.other (by omega) _, hQ6.other (by omega) _, hO6.set 1 _ (by simp), by simp; omega, hB6⟩
            case measure => simp [intOf]; omega
        · obtain rfl : k = es.length := by omega
          rw [List.take_length] at hR
          obtain ⟨A5, c5, rfl⟩ := Kd.R_slice hR
          have i1 : ¬ (es.length : Int) < (es.length : Int) := by omega
          have o0 := hO.at 0 _ rfl
          have o1 := hO.at 1 _ rfl
          have q0 := hQ.at 0 _ rfl
          have q1 := hQ.at 1 _ rfl
          have q2 := hQ.free 0 _ rfl
          have q3 := hQ.free 1 _ rfl
          go_wp2_with fail
          refine bodyPost_ret (v := .agg #[.slice Ab bs.length cb, .slice A5 es.length c5]) (by simp [results, Tryd.results56, go_sem, *]) rfl ?_
          refine ⟨_, _, rfl, ?_, ?_, (by repeat (first | exact Below.refl _ _ | apply below_alloc | apply pw_below_drewN | apply below_drew1 | (refine Below.setCell ?_ (by first | (simp; done) | (simp; omega) | omega) _) | exact hB))⟩
          · exact Kd.S_lower (S_elder (S_elder (Kd.S_mono hS (fun _ _ => trivial)) (show w.heap.size + 1 < w.heap.size + 1 + 1 + 1 by omega) _) (show w.heap.size + 1 < w.heap.size + 1 + 1 + 1 by omega) _) (by omega)
          · exact Kd.R_lower (R_elder (R_elder hR (show w.heap.size + 1 < bb by omega) _) (show w.heap.size + 1 < bb by omega) _) (by omega)
end Go.Proofs.YtijdghplfhfpaaaDoor.H

/- Boxes: the reference's put. -/
namespace Go.Proofs.YtijdghplfhfpaaaDoor.H
open Go.RowKit Go.Proofs.YtijdghplfhfpaaaDoorW.PrintWords Go.Proofs.YtijdghplfhfpaaaDoorW.PrintLast Go.Proofs.YtijdghplfhfpaaaDoor.U
set_option linter.unusedVariables false
set_option linter.unusedSimpArgs false
/-- A state read through two slices; what is read stands in no block of Z. -/
def Rd (Z : Nat → Prop) (w : World) (A : Option Addr) (bs : List ABox) (A2 : Option Addr) (es : List AEntry) : Prop :=
  ∀ W' : World, w.heap.size ≤ W'.heap.size → (∀ k, ¬ Z k → k < w.heap.size → W'.heap[k]? = w.heap[k]?) → kBox.C W' A bs.length bs ∧ Kd.C kAEntry W' A2 es.length es
theorem Rd.now {Z : Nat → Prop} {w : World} {A A2 : Option Addr} {bs : List ABox} {es : List AEntry} (h : Rd Z w A bs A2 es) : kBox.C w A bs.length bs ∧ Kd.C kAEntry w A2 es.length es := h w (Nat.le_refl _) (fun _ _ _ => rfl)
theorem Rd.step {Z Z' : Nat → Prop} {w w1 : World} {A A2 : Option Addr} {bs : List ABox} {es : List AEntry} (h : Rd Z w A bs A2 es) (hs : w.heap.size ≤ w1.heap.size) (hk : ∀ k, ¬ Z k → k < w.heap.size → w1.heap[k]? = w.heap[k]?) (hZ : ∀ k, k < w.heap.size → Z' k → Z k) : Rd Z' w1 A bs A2 es :=
  fun W' h1 h2 => h W' (Nat.le_trans hs h1) (fun k hz hlt => (h2 k (fun h3 => hz (hZ k hlt h3)) (Nat.lt_of_lt_of_le hlt hs)).trans (hk k hz hlt))
theorem Rd.below {Z : Nat → Prop} {w w1 : World} {A A2 : Option Addr} {bs : List ABox} {es : List AEntry} (h : Rd Z w A bs A2 es) (hb : Below w.heap.size w w1) : Rd Z w1 A bs A2 es := h.step hb.size (fun k _ hlt => hb.block k hlt) (fun _ _ h => h)
theorem Rd.own {Z : Nat → Prop} {w : World} {base n c n2 c2 : Nat} {ok ok2 : Nat → Prop} {A A2 : Option Addr} {bs : List ABox} {es : List AEntry} (hS : Kd.S kBox 77 w base ok (.slice A n c) bs) (hR : Kd.R kAEntry 40 w base ok2 (.slice A2 n2 c2) es) (h1 : ∀ k, ok k → base ≤ k → ¬ Z k) (h2 : ∀ k, ok2 k → base ≤ k → ¬ Z k) : Rd Z w A bs A2 es :=
  fun W' hs hk => ⟨(Kd.S_reads' (Kd.S_move (Kd.S_bound hS) (fun k h => hk k (h1 k h.1 h.2.1) h.2.2.1))).2.2, (Kd.R_reads' (Kd.R_move (Kd.R_bound hR) (fun k h => hk k (h2 k h.1 h.2.1) h.2.2.1))).2.2⟩
def PostSt (Z : Nat → Prop) (w : World) (R : Int × List ABox × List AEntry) (e : Ending) (w' : World) : Prop :=
  ∃ A c A2 c2, e = .returned (.tuple #[.agg #[.slice A R.2.1.length c, .slice A2 R.2.2.length c2], .int .i64 R.1]) ∧ R.2.1.length ≤ c ∧ Rd Z w' A R.2.1 A2 R.2.2 ∧ Below w.heap.size w w'
set_option maxHeartbeats 2000000 in
set_option maxRecDepth 100000 in
theorem put_calls (Z : Nat → Prop) (i : Nat) (fl : Int) (tx : ByteArray) (A : Option Addr) (c : Nat) (bs : List ABox) (A2 : Option Addr) (c2 : Nat) (es : List AEntry) (w : World) (hrd : Rd Z w A bs A2 es) (hZ : ∀ k, Z k → k < w.heap.size) (hc : bs.length ≤ c) (hinv : InvS bs es) (hi : i < bs.length) (htx : tx.size ≤ 2000) :
    Calls Tryd.prog 96 #[.agg #[.slice A bs.length c, .slice A2 es.length c2], .int .i64 i, .int .i64 fl, .string tx] w (PostSt Z w ((addV bs i fl tx).1, (addV bs i fl tx).2, es)) := by
  obtain ⟨hr, hr2⟩ := hrd.now
  obtain ⟨nm, nx, l, hb⟩ : ∃ nm nx l, bs[i] = (nm, nx, l) := ⟨_, _, _, rfl⟩
  have hgd : GoodB (nm, nx, l) := by rw [← hb]; exact hinv.2.2 _ (List.getElem_mem hi)
  obtain ⟨g1, g2, g3, g4, g5⟩ := hgd
  simp only at g1 g2 g3 g4 g5
  have hi1 := hinv.1
  have hi2 := hinv.2.1
  have hsz : stSize bs ≤ 300000 := by
    have h2 := inv_size hinv.2.2
    have h3 : bs.length * 60000 ≤ 5 * 60000 := Nat.mul_le_mul_right _ hinv.1
    omega
  have hb30 : ∀ b ∈ bs, b.2.2.length ≤ 1048576 := fun b hb => by have := (hinv.2.2 b hb).2.2.2.1; omega
  obtain ⟨W2, hW2⟩ : ∃ W2 : World, W2 = (w.alloc (.cells #[.slice A bs.length c, .slice A2 es.length c2] 25)).alloc (.cells #[.slice none 0 0, .slice none 0 0] 25) := ⟨_, rfl⟩
  have hP0 : Blk W2 w.heap.size [.slice A bs.length c, .slice A2 es.length c2] := by rw [hW2]; exact (Blk.made w _ _).alloc _
  have hQ0 : Blk W2 (w.heap.size + 1) [.slice none 0 0, .slice none 0 0] := by rw [hW2]; exact Blk.made_at _ _ _ (by simp)
  have hB0 : Below w.heap.size w W2 := by rw [hW2]; exact (by repeat (first | exact Below.refl _ _ | apply below_alloc | apply pw_below_drewN | apply below_drew1 | (refine Below.setCell ?_ (by first | (simp; done) | (simp; omega) | omega) _) ))
  have hz0 : W2.heap.size = w.heap.size + 1 + 1 := by rw [hW2]; simp
  obtain ⟨ad, Ae, ce, e1, x0, x1, x2, hC⟩ := box_at hr i hi
  subst e1
  rw [add1] at x1
  rw [add2] at x2
  rw [hb] at x0 x1 x2 hC
  simp only at x0 x1 x2 hC
  obtain ⟨W3, hW3⟩ : ∃ W3 : World, W3 = W2.alloc (.cells #[.string nm, .int .i64 nx, .slice Ae l.length ce] 77) := ⟨_, rfl⟩
  have hP1 : Blk W3 w.heap.size [.slice (some ad) bs.length c, .slice A2 es.length c2] := by rw [hW3]; exact hP0.alloc _
  have hQ1 : Blk W3 (w.heap.size + 1) [.slice none 0 0, .slice none 0 0] := by rw [hW3]; exact hQ0.alloc _
  have hX1 : Blk W3 (w.heap.size + 1 + 1) [.string nm, .int .i64 nx, .slice Ae l.length ce] := by rw [hW3, ← hz0]; exact Blk.made _ _ _
  have hB1 : Below w.heap.size w W3 := by rw [hW3]; exact below_alloc' hB0 (by omega) _
  have hz1 : W3.heap.size = w.heap.size + 1 + 1 + 1 := by rw [hW3]; simp [hz0]
  have i0 : (0 : Int) ≤ (i : Int) := by omega
  have i1 : (i : Int) < (bs.length : Int) := by omega
  rw [hW2] at hW3
  replace hW3 := Lib.hid hW3
  clear hP0 hQ0 hB0 hW2
  have x0a := cell_alloc' (cell_alloc' x0 (.cells #[.slice (some ad) bs.length c, .slice A2 es.length c2] 25)) (.cells #[.slice none 0 0, .slice none 0 0] 25)
  have x1a := cell_alloc' (cell_alloc' x1 (.cells #[.slice (some ad) bs.length c, .slice A2 es.length c2] 25)) (.cells #[.slice none 0 0, .slice none 0 0] 25)
  have x2a := cell_alloc' (cell_alloc' x2 (.cells #[.slice (some ad) bs.length c, .slice A2 es.length c2] 25)) (.cells #[.slice none 0 0, .slice none 0 0] 25)
  by_cases h30 : 30 ≤ l.length
  · rw [addV_full hi hb (.inl h30)]
    have h30' : (30 : Int) ≤ (l.length : Int) := by omega
    clear h30
    go_enter Tryd.func96, Tryd.ntmps96
    go_wp2_with fail
    refine bodyPost_ret (v := .tuple #[.agg #[.slice (some ad) bs.length c, .slice A2 es.length c2], .int .i64 5]) (by simp [results, Tryd.results96, go_sem, *]) rfl ?_
    exact ⟨some ad, c, A2, c2, rfl, hc, hrd.below (by repeat (first | exact Below.refl _ _ | apply below_alloc | apply pw_below_drewN | apply below_drew1 | (refine Below.setCell ?_ (by first | (simp; done) | (simp; omega) | omega) _) )), (by repeat (first | exact Below.refl _ _ | apply below_alloc | apply pw_below_drewN | apply below_drew1 | (refine Below.setCell ?_ (by first | (simp; done) | (simp; omega) | omega) _) ))⟩
  · have h30' : ¬ (30 : Int) ≤ (l.length : Int) := by omega
    by_cases hnx : 1048576 < nx
    · rw [addV_full hi hb (.inr (.inl hnx))]
      clear h30
      go_enter Tryd.func96, Tryd.ntmps96
      go_wp2_with fail
      refine bodyPost_ret (v := .tuple #[.agg #[.slice (some ad) bs.length c, .slice A2 es.length c2], .int .i64 5]) (by simp [results, Tryd.results96, go_sem, *]) rfl ?_
      exact ⟨some ad, c, A2, c2, rfl, hc, hrd.below (by repeat (first | exact Below.refl _ _ | apply below_alloc | apply pw_below_drewN | apply below_drew1 | (refine Below.setCell ?_ (by first | (simp; done) | (simp; omega) | omega) _) )), (by repeat (first | exact Below.refl _ _ | apply below_alloc | apply pw_below_drewN | apply below_drew1 | (refine Below.setCell ?_ (by first | (simp; done) | (simp; omega) | omega) _) ))⟩
    · have HZ := Lib.hid (fun W hr => bytesOf_calls (some ad) c bs (.slice A2 es.length c2) W ⟨_, _, _, rfl⟩ hr (by omega))
      have hwr : IntKind.i64.wrap ((stSize bs : Int) + (tx.size : Int)) = (stSize bs : Int) + (tx.size : Int) := by rw [IntKind.wrap_i64]; omega
      by_cases h6 : 6000 < stSize bs + tx.size
      · rw [addV_full hi hb (.inr (.inr h6))]
        have h6' : (6000 : Int) < (stSize bs : Int) + (tx.size : Int) := by omega
        generalize stSize bs = z at *
        clear h30
        go_enter Tryd.func96, Tryd.ntmps96
        go_wp2_with fail
        rw [← hW3.out]
        refine (HZ.out _ (Kd.C_below hr hB1)).mono ?_
        rintro e w1 ⟨rfl, hb1⟩
        have hz2 := hb1.size
        have hP2 := hP1.below hb1 (by omega)
        have hQ2 := hQ1.below hb1 (by omega)
        have hB2 := hB1.trans (hb1.mono (by omega))
        have q0 := hQ2.at 0 _ rfl
        have q1 := hQ2.at 1 _ rfl
        have q2 := hQ2.free 0 _ rfl
        have q3 := hQ2.free 1 _ rfl
        have p0 := hP2.at 0 _ rfl
        have p1 := hP2.at 1 _ rfl
        go_wp2_with fail
        refine bodyPost_ret (v := .tuple #[.agg #[.slice (some ad) bs.length c, .slice A2 es.length c2], .int .i64 5]) (by simp [results, Tryd.results96, go_sem, *]) rfl ?_
        exact ⟨some ad, c, A2, c2, rfl, hc, hrd.below (by repeat (first | exact Below.refl _ _ | apply below_alloc | apply pw_below_drewN | apply below_drew1 | (refine Below.setCell ?_ (by first | (simp; done) | (simp; omega) | omega) _) | exact hB2)), (by repeat (first | exact Below.refl _ _ | apply below_alloc | apply pw_below_drewN | apply below_drew1 | (refine Below.setCell ?_ (by first | (simp; done) | (simp; omega) | omega) _) | exact hB2))⟩
      · rw [addV_room hi hb (by intro h; rcases h with h | h | h <;> omega)]
        have h6' : ¬ (6000 : Int) < (stSize bs : Int) + (tx.size : Int) := by omega
        generalize stSize bs = z at *
        have HSC := Lib.hid (fun W h1 h2 => stateCopy_calls (some ad) c bs A2 c2 es W h1 h2 (by omega) (by omega) hb30)
        clear h30 x0a x1a x2a
        have x0a := cell_alloc' (cell_alloc' x0 (.cells #[.slice (some ad) bs.length c, .slice A2 es.length c2] 25)) (.cells #[.slice none 0 0, .slice none 0 0] 25)
        have x1a := cell_alloc' (cell_alloc' x1 (.cells #[.slice (some ad) bs.length c, .slice A2 es.length c2] 25)) (.cells #[.slice none 0 0, .slice none 0 0] 25)
        have x2a := cell_alloc' (cell_alloc' x2 (.cells #[.slice (some ad) bs.length c, .slice A2 es.length c2] 25)) (.cells #[.slice none 0 0, .slice none 0 0] 25)
        go_enter Tryd.func96, Tryd.ntmps96
        go_wp2_with fail
        rw [← hW3.out]
        refine (HZ.out _ (Kd.C_below hr hB1)).mono ?_
        rintro e w1 ⟨rfl, hb1⟩
        have hz2 := hb1.size
        have hP2 := hP1.below hb1 (by omega)
        have hQ2 := hQ1.below hb1 (by omega)
        have hX2 := hX1.below hb1 (by omega)
        have hB2 := hB1.trans (hb1.mono (by omega))
        have p0 := hP2.at 0 _ rfl
        have p1 := hP2.at 1 _ rfl
        have hz2' : w.heap.size + 1 + 1 + 1 ≤ w1.heap.size := by omega
        clear hP1 hQ1 hX1 hB1 hb1 x0a x1a x2a x0 x1 x2 hC hW3 hz1
        go_wp2_with fail
        refine (HSC.out _ (Kd.C_below hr hB2) (Kd.C_below hr2 hB2)).mono ?_
        rintro e w3 ⟨vB, vS, rfl, hS3, hE3, hb3⟩
        obtain ⟨Ab, cb, rfl⟩ := Kd.S_slice hS3
        obtain ⟨As, cs, rfl⟩ := Kd.R_slice hE3
        have hz3 := hb3.size
        obtain ⟨pb, hpbe⟩ : ∃ pb, pb = w3.heap.size := ⟨_, rfl⟩
        obtain ⟨base, hbe⟩ : ∃ base, base = w1.heap.size := ⟨_, rfl⟩
        obtain ⟨w5, hW5⟩ : ∃ w5 : World, w5 = w3.alloc (.cells #[.slice Ab bs.length cb, .slice As es.length cs] 25) := ⟨_, rfl⟩
        have hQ5 : Blk w5 (w.heap.size + 1) [.slice none 0 0, .slice none 0 0] := by rw [hW5]; exact (hQ2.below hb3 (by omega)).alloc _
        have hX5 : Blk w5 (w.heap.size + 1 + 1) [.string nm, .int .i64 nx, .slice Ae l.length ce] := by rw [hW5]; exact (hX2.below hb3 (by omega)).alloc _
        have hk5 : Blk w5 pb [.slice Ab bs.length cb, .slice As es.length cs] := by rw [hW5, hpbe]; exact Blk.made _ _ _
        have hB5 : Below w.heap.size w w5 := by rw [hW5]; exact below_alloc' (hB2.trans (hb3.mono (by omega))) (by omega) _
        have hS5 : Kd.S kBox 77 w5 base (fun k => k ≠ pb) (.slice Ab bs.length cb) bs := by rw [hW5, hbe, hpbe]; exact Kd.S_mono (Kd.S_below (Kd.S_bound hS3) (by repeat (first | exact Below.refl _ _ | apply below_alloc | apply pw_below_drewN | apply below_drew1 | (refine Below.setCell ?_ (by first | (simp; done) | (simp; omega) | omega) _) ))) (fun k hk => by have := hk.2.2.1; show k ≠ _; omega)
        have hE5 : Kd.R kAEntry 40 w5 base (fun k => k ≠ pb) (.slice As es.length cs) es := by rw [hW5, hbe, hpbe]; exact Kd.R_mono (Kd.R_below (Kd.R_bound hE3) (by repeat (first | exact Below.refl _ _ | apply below_alloc | apply pw_below_drewN | apply below_drew1 | (refine Below.setCell ?_ (by first | (simp; done) | (simp; omega) | omega) _) ))) (fun k hk => by have := hk.2.2.1; show k ≠ _; omega)
        have hz5 : w5.heap.size = pb + 1 := by rw [hW5, hpbe]; simp
        have hp : base ≤ pb := by omega
        have hbw : w.heap.size + 1 + 1 + 1 ≤ base := by omega
        replace hW5 := Lib.hid hW5
        replace hpbe := Lib.hid hpbe
        clear hP2 hQ2 hX2 hB2 hb3 hS3 hE3 p0 p1 hbe hz2 hz3
        go_wp2_with fail
        rw [← hW5.out, ← hpbe.out]
        have hz5k := hk5.lt
        have hz5x := hX5.lt
        have hz5q := hQ5.lt
        replace hz5 := Lib.hid hz5
        obtain ⟨g, cap, hAc, hgb, hgl, cells, hgc⟩ := Kd.S_form hS5 (by omega)
        injection hAc with hAc1 _ hAc2
        subst hAc1
        subst hAc2
        obtain ⟨oki, vM, y0, y1, y2, f1, f2, hR, hoki, hH⟩ := box_lend hS5 hi hb
        obtain ⟨Am, cm, rfl⟩ := Kd.R_slice hR
        have hng : g ≠ pb := fun he => (Kd.S_R hS5).1 g (by simp [Value.ownBlock]) he
        have hng2 : pb ≠ g := Ne.symm hng
        have ea : (⟨g, 0, none⟩ : Addr).add (i * 3) = ⟨g, i * 3, none⟩ := add_plain _ _
        have ngb : g ≠ w.heap.size + 1 + 1 := by omega
        have hH1 := Kd.H_widen (Kd.H_drew hH)
        have hR1 : Kd.R kAMail 84 w5.drew base (fun k => oki k ∨ k ≠ pb ∧ w5.drew.heap.size ≤ k) (.slice Am l.length cm) l := Kd.R_mono (Kd.R_drew hR) (fun k hk => .inl hk)
        have hng3 : ∀ k, (oki k ∨ k ≠ pb ∧ w5.drew.heap.size ≤ k) → k ≠ g := fun k hk => by
          rcases hk with hk | hk
          · exact (hoki k hk).2
          · have := hk.2; simp at this; omega
        have hgo : some g ≠ (Value.slice Am l.length cm).ownBlock := fun he => (hoki g (hR.1 g he.symm)).2 rfl
        have hpo : some pb ≠ (Value.slice Am l.length cm).ownBlock := fun he => (hoki pb (hR.1 pb he.symm)).1 rfl
        have y2d := cell_drew' y2
        have y2a := cell_alloc' y2 (.cells #[.int .i64 nx, .int .i64 fl, .string tx] 84)
        have hkd := hk5.drew
        have hXd := hX5.drew
        have hl30 : l.length < 30 := by omega
        go_wp2_with fail
        refine wp_region_held_drew (S := fun w' => w'.cell? ⟨pb, 0, none⟩ = some (.slice (some ⟨g, 0, none⟩) bs.length cb) ∧ w'.cell? ⟨w.heap.size + 1 + 1, 1, none⟩ = some (.int .i64 nx)) (by kernel_rfl) ?_ (fun hHeld => ?_)
        · exact ⟨hkd.at 0 _ rfl, hXd.at 1 _ rfl⟩
        refine wpAnyH_take (i := 0) (oi := { dst := some 37, op := _, type := _, pos := _, after := _, guard := _ }) (v := .pointer (some ⟨pb, 0, none⟩)) rfl (by kernel_rfl) (by kernel_rfl) (by kernel_rfl) (fun _ _ _ h => h) (Or.inl ⟨by rfl, by (intro w hSw; (try dsimp only at hSw); first | (go_simp; done) | (go_simp; with_reducible rfl) | (go_simp; omega) | (go_simp; simp [*]; done))⟩) (by assumption) ?_; try simp only [Act.put, List.setIfInBounds_toArray, List.set_cons_zero, List.set_cons_succ]
        refine wpAnyH_take (i := 1) (oi := { dst := some 38, op := _, type := _, pos := _, after := _, guard := _ }) (v := .slice (some ⟨g, 0, none⟩) bs.length cb) rfl (by kernel_rfl) (by kernel_rfl) (by kernel_rfl) (fun _ _ _ h => h) (Or.inl ⟨by rfl, by (intro w hSw; (try dsimp only at hSw); first | (go_simp; done) | (go_simp; with_reducible rfl) | (go_simp; omega) | (go_simp; simp [*]; done))⟩) (by assumption) ?_; try simp only [Act.put, List.setIfInBounds_toArray, List.set_cons_zero, List.set_cons_succ]
        refine wpAnyH_take (i := 2) (oi := { dst := some 39, op := _, type := _, pos := _, after := _, guard := _ }) (v := .int .i64 i) rfl (by kernel_rfl) (by kernel_rfl) (by kernel_rfl) (fun _ _ _ h => h) (Or.inl ⟨by rfl, by (intro w hSw; (try dsimp only at hSw); first | (go_simp; done) | (go_simp; with_reducible rfl) | (go_simp; omega) | (go_simp; simp [*]; done))⟩) (by assumption) ?_; try simp only [Act.put, List.setIfInBounds_toArray, List.set_cons_zero, List.set_cons_succ]
        refine wpAnyH_take (i := 3) (oi := { dst := some 40, op := _, type := _, pos := _, after := _, guard := _ }) (v := .pointer (some ⟨pb, 0, none⟩)) rfl (by kernel_rfl) (by kernel_rfl) (by kernel_rfl) (fun _ _ _ h => h) (Or.inl ⟨by rfl, by (intro w hSw; (try dsimp only at hSw); first | (go_simp; done) | (go_simp; with_reducible rfl) | (go_simp; omega) | (go_simp; simp [*]; done))⟩) (by assumption) ?_; try simp only [Act.put, List.setIfInBounds_toArray, List.set_cons_zero, List.set_cons_succ]
        refine wpAnyH_take (i := 4) (oi := { dst := some 41, op := _, type := _, pos := _, after := _, guard := _ }) (v := .slice (some ⟨g, 0, none⟩) bs.length cb) rfl (by kernel_rfl) (by kernel_rfl) (by kernel_rfl) (fun _ _ _ h => h) (Or.inl ⟨by rfl, by (intro w hSw; (try dsimp only at hSw); first | (go_simp; done) | (go_simp; with_reducible rfl) | (go_simp; omega) | (go_simp; simp [*]; done))⟩) (by assumption) ?_; try simp only [Act.put, List.setIfInBounds_toArray, List.set_cons_zero, List.set_cons_succ]
        refine wpAnyH_take (i := 5) (oi := { dst := some 42, op := _, type := _, pos := _, after := _, guard := _ }) (v := .int .i64 i) rfl (by kernel_rfl) (by kernel_rfl) (by kernel_rfl) (fun _ _ _ h => h) (Or.inl ⟨by rfl, by (intro w hSw; (try dsimp only at hSw); first | (go_simp; done) | (go_simp; with_reducible rfl) | (go_simp; omega) | (go_simp; simp [*]; done))⟩) (by assumption) ?_; try simp only [Act.put, List.setIfInBounds_toArray, List.set_cons_zero, List.set_cons_succ]
        refine wpAnyH_take (i := 6) (oi := { dst := some 43, op := _, type := _, pos := _, after := _, guard := _ }) (v := .pointer (some ⟨g, i * 3, none⟩)) rfl (by kernel_rfl) (by kernel_rfl) (by kernel_rfl) (fun _ _ _ h => h) (Or.inl ⟨by rfl, by (intro w hSw; (try dsimp only at hSw); first | (go_simp; done) | (go_simp; with_reducible rfl) | (go_simp; omega) | (go_simp; simp [*]; done))⟩) (by assumption) ?_; try simp only [Act.put, List.setIfInBounds_toArray, List.set_cons_zero, List.set_cons_succ]
        refine wpAnyH_take (i := 7) (oi := { dst := some 44, op := _, type := _, pos := _, after := _, guard := _ }) (v := .pointer (some ⟨g, i * 3 + 2, none⟩)) rfl (by kernel_rfl) (by kernel_rfl) (by kernel_rfl) (fun _ _ _ h => h) (Or.inl ⟨by rfl, by (intro w hSw; (try dsimp only at hSw); first | (go_simp; done) | (go_simp; with_reducible rfl) | (go_simp; omega) | (go_simp; simp [*]; done))⟩) (by assumption) ?_; try simp only [Act.put, List.setIfInBounds_toArray, List.set_cons_zero, List.set_cons_succ]
        refine wpAnyH_take (i := 9) (oi := { dst := some 46, op := _, type := _, pos := _, after := _, guard := _ }) (v := .pointer (some ⟨w.heap.size + 1 + 1, 1, none⟩)) rfl (by kernel_rfl) (by kernel_rfl) (by kernel_rfl) (fun _ _ _ h => h) (Or.inl ⟨by rfl, by (intro w hSw; (try dsimp only at hSw); first | (go_simp; done) | (go_simp; with_reducible rfl) | (go_simp; omega) | (go_simp; simp [*]; done))⟩) (by assumption) ?_; try simp only [Act.put, List.setIfInBounds_toArray, List.set_cons_zero, List.set_cons_succ]
        refine wpAnyH_take (i := 10) (oi := { dst := some 47, op := _, type := _, pos := _, after := _, guard := _ }) (v := .int .i64 nx) rfl (by kernel_rfl) (by kernel_rfl) (by kernel_rfl) (fun _ _ _ h => h) (Or.inl ⟨by rfl, by (intro w hSw; (try dsimp only at hSw); first | (go_simp; done) | (go_simp; with_reducible rfl) | (go_simp; omega) | (go_simp; simp [*]; done))⟩) (by assumption) ?_; try simp only [Act.put, List.setIfInBounds_toArray, List.set_cons_zero, List.set_cons_succ]
        refine wpAnyH_take (i := 11) (oi := { dst := some 48, op := _, type := _, pos := _, after := _, guard := _ }) (v := .int .i64 fl) rfl (by kernel_rfl) (by kernel_rfl) (by kernel_rfl) (fun _ _ _ h => h) (Or.inl ⟨by rfl, by (intro w hSw; (try dsimp only at hSw); first | (go_simp; done) | (go_simp; with_reducible rfl) | (go_simp; omega) | (go_simp; simp [*]; done))⟩) (by assumption) ?_; try simp only [Act.put, List.setIfInBounds_toArray, List.set_cons_zero, List.set_cons_succ]
        refine wpAnyH_take (i := 12) (oi := { dst := some 49, op := _, type := _, pos := _, after := _, guard := _ }) (v := .string tx) rfl (by kernel_rfl) (by kernel_rfl) (by kernel_rfl) (fun _ _ _ h => h) (Or.inl ⟨by rfl, by (intro w hSw; (try dsimp only at hSw); first | (go_simp; done) | (go_simp; with_reducible rfl) | (go_simp; omega) | (go_simp; simp [*]; done))⟩) (by assumption) ?_; try simp only [Act.put, List.setIfInBounds_toArray, List.set_cons_zero, List.set_cons_succ]
        refine wpAnyH_take (i := 13) (oi := { dst := some 50, op := _, type := _, pos := _, after := _, guard := _ }) (v := .agg #[.int .i64 nx, .int .i64 fl, .string tx]) rfl (by kernel_rfl) (by kernel_rfl) (by kernel_rfl) (fun _ _ _ h => h) (Or.inl ⟨by rfl, by (intro w hSw; (try dsimp only at hSw); first | (go_simp; done) | (go_simp; with_reducible rfl) | (go_simp; omega) | (go_simp; simp [*]; done))⟩) (by assumption) ?_; try simp only [Act.put, List.setIfInBounds_toArray, List.set_cons_zero, List.set_cons_succ]
        refine wpAnyH_ready (rs := [8, 14]) (by kernel_rfl) (by simp) ?_
        refine AllReadyH.cons (o := { dst := some 45, op := _, type := _, pos := _, after := _, guard := _ }) rfl (fun K hK => ?_) (AllReadyH.cons (o := { dst := some 51, op := _, type := _, pos := _, after := _, guard := _ }) rfl (fun K hK => ?_) AllReadyH.nil)
        · go_simp
          refine hK.out _ _ ⟨hkd.at 0 _ rfl, hXd.at 1 _ rfl⟩ (fun hHeld => ?_)
          clear hK K
          refine wpAnyH_ready (rs := [14]) (by kernel_rfl) (by simp) ?_
          refine AllReadyH.cons (o := { dst := some 51, op := _, type := _, pos := _, after := _, guard := _ }) rfl (fun K hK => ?_) AllReadyH.nil
          go_simp
          refine hK.out _ _ ⟨(hkd.alloc _).at 0 _ rfl, (hXd.alloc _).at 1 _ rfl⟩ (fun hHeld => ?_)
          clear hK K
          refine wpAnyH_ready (rs := [15]) (by kernel_rfl) (by simp) ?_
          refine AllReadyH.cons (o := { dst := some 52, op := _, type := _, pos := _, after := _, guard := _ }) rfl (fun K hK => ?_) AllReadyH.nil
          refine mail_step base (by rfl) (.tmp 45) (.tmp 51) (by rfl) (.slice Am l.length cm) l ⟨nx, fl, tx⟩ (fun k => oki k ∨ k ≠ pb ∧ w5.drew.heap.size ≤ k) (by rfl) (by rfl) (fun k hk => .inr ⟨(by simp at hk; omega), hk⟩) hR1 (by simp; omega) (by omega) ?_
          intro v1 w6 hR6 hb6 hg6
          obtain ⟨A6, c6, h6⟩ := Kd.R_slice hR6
          rw [List.length_append] at h6
          subst h6
          have hz6 := hg6.size
          simp at hz6
          have hbo : some (w.heap.size + 1 + 1) ≠ (Value.slice Am l.length cm).ownBlock := fun he => by have := Kd.R_base hR _ he.symm; omega
          have z1 := (hg6.cell_far ⟨g, i * 3 + 1, none⟩ (by simp; omega) hgo).trans (cell_drew' y1)
          have z2 := (hg6.cell_far ⟨g, i * 3 + 2, none⟩ (by simp; omega) hgo).trans y2d
          have z3 : w6.frozen? ⟨g, i * 3 + 1, none⟩ = false := (hg6.frozen_far ⟨g, i * 3 + 1, none⟩ (by simp; omega) hgo).trans (by simpa using f1)
          have z4 : w6.frozen? ⟨g, i * 3 + 2, none⟩ = false := (hg6.frozen_far ⟨g, i * 3 + 2, none⟩ (by simp; omega) hgo).trans (by simpa using f2)
          have hk6 := (hk5.drew).grown hg6 hpo
          have hX6 := (hX5.drew).grown hg6 hbo
          refine hK.out _ _ ⟨hk6.at 0 _ rfl, hX6.at 1 _ rfl⟩ (fun hHeld => ?_)
          clear hK K
          refine wpAnyH_take (i := 16) (oi := { dst := some 53, op := _, type := _, pos := _, after := _, guard := _ }) (v := .pointer (some ⟨g, i * 3, none⟩)) rfl (by kernel_rfl) (by kernel_rfl) (by kernel_rfl) (fun _ _ _ h => h) (Or.inl ⟨by rfl, by (intro w hSw; (try dsimp only at hSw); first | (go_simp; done) | (go_simp; with_reducible rfl) | (go_simp; omega) | (go_simp; simp [*]; done))⟩) (by assumption) ?_; try simp only [Act.put, List.setIfInBounds_toArray, List.set_cons_zero, List.set_cons_succ]
          refine wpAnyH_take (i := 17) (oi := { dst := some 54, op := _, type := _, pos := _, after := _, guard := _ }) (v := .pointer (some ⟨g, i * 3 + 2, none⟩)) rfl (by kernel_rfl) (by kernel_rfl) (by kernel_rfl) (fun _ _ _ h => h) (Or.inl ⟨by rfl, by (intro w hSw; (try dsimp only at hSw); first | (go_simp; done) | (go_simp; with_reducible rfl) | (go_simp; omega) | (go_simp; simp [*]; done))⟩) (by assumption) ?_; try simp only [Act.put, List.setIfInBounds_toArray, List.set_cons_zero, List.set_cons_succ]
          refine wpAnyH_ready (rs := [18]) (by kernel_rfl) (by simp) ?_
          refine AllReadyH.cons (o := { dst := none, op := _, type := _, pos := _, after := _, guard := _ }) rfl (fun K hK => ?_) AllReadyH.nil
          go_simp
          have hk7 := hk6.other (c := g) (j := i * 3 + 2) hng (.slice A6 (l.length + 1) c6)
          have hX7 := hX6.other (c := g) (j := i * 3 + 2) ngb (.slice A6 (l.length + 1) c6)
          refine hK.out _ _ ⟨hk7.at 0 _ rfl, hX7.at 1 _ rfl⟩ (fun hHeld => ?_)
          clear hK K
          refine wpAnyH_done (by kernel_rfl) ?_ _
          have hH6 := Kd.H_grown hH1 hg6 (fun k hk => hR1.1 k hk)
          have hk8 := hk7.other (c := g) (j := i * 3 + 1) hng (.int .i64 (nx + 1))
          have hS8 := box_back (box_hole1 (nx' := nx + 1) (box_hole2 (v1 := .slice A6 (l.length + 1) c6) hH6 hi rfl) hi) (Kd.R_far (p := ⟨g, i * 3 + 1, none⟩) (Kd.R_far (p := ⟨g, i * 3 + 2, none⟩) hR6 hng3 (.slice A6 (l.length + 1) c6)) hng3 (.int .i64 (nx + 1)))
          have hg7 : w6.heap[g]? = some (.cells cells 77 (0, 0)) := (hg6.block g (by simp; omega) hgo).trans hgc
          have hE8 := Kd.R_mono (Kd.R_far (p := ⟨g, i * 3 + 1, none⟩) (Kd.R_far (p := ⟨g, i * 3 + 2, none⟩) (Kd.R_types (entries_over (Kd.R_drew hE5) hR1 hg6) hg7 (by decide)) (fun k hk => hk.2) (.slice A6 (l.length + 1) c6)) (fun k hk => hk.2) (.int .i64 (nx + 1))) (fun k hk => hk.1)
          have hB8 := Below.setCell (p := ⟨g, i * 3 + 1, none⟩) (Below.setCell (p := ⟨g, i * 3 + 2, none⟩) (Below.trans (below_drew (Below.refl base w5)) hb6) hgb (.slice A6 (l.length + 1) c6)) hgb (.int .i64 (nx + 1))
          have hQ8 := hQ5.below hB8 (by omega)
          have hBB := hB5.trans (hB8.mono (by omega))
          have hw : IntKind.i64.wrap (nx + 1) = nx + 1 := by rw [IntKind.wrap_i64]; omega
          have k0 := hk7.at 0 _ rfl
          have k1 := hk8.at 0 _ rfl
          have k2 := hk8.at 1 _ rfl
          have b0 := hX7.at 1 _ rfl
          have q0 := hQ8.at 0 _ rfl
          have q1 := hQ8.at 1 _ rfl
          have q2 := hQ8.free 0 _ rfl
          have q3 := hQ8.free 1 _ rfl
          have z5 : (w6.setCell ⟨g, i * 3 + 2, none⟩ (.slice A6 (l.length + 1) c6)).cell? ⟨g, i * 3 + 1, none⟩ = some (.int .i64 nx) := by
            rw [World.cell?_setCell_other _ _ _ _ (by simp)]; exact z1
          have hcS := (Kd.S_reads' hS8).2.1
          have hRdo := fun u1 u2 => Rd.own (Z := Z) (Kd.S_far (p := ⟨w.heap.size + 1, 1, none⟩) (Kd.S_far (p := ⟨w.heap.size + 1, 0, none⟩) (Kd.S_bound hS8) (fun k hk => by have := hk.2.1; show k ≠ w.heap.size + 1; omega) u1) (fun k hk => by have := hk.2.1; show k ≠ w.heap.size + 1; omega) u2) (Kd.R_far (p := ⟨w.heap.size + 1, 1, none⟩) (Kd.R_far (p := ⟨w.heap.size + 1, 0, none⟩) (Kd.R_bound hE8) (fun k hk => by have := hk.2.1; show k ≠ w.heap.size + 1; omega) u1) (fun k hk => by have := hk.2.1; show k ≠ w.heap.size + 1; omega) u2) (fun k _ hk hz => by have := hZ k hz; omega) (fun k _ hk hz => by have := hZ k hz; omega)
          have hB66 : Below w.heap.size w w6 := hB5.trans ((Below.trans (below_drew (Below.refl base w5)) hb6).mono (by omega))
          clear hH6 hH1 hH hR6 hR1 hR hE5 hS5 z1 z2 y1 y2 y2d y2a hg7 hE8 hS8
          go_wp2_with fail
          refine bodyPost_ret (v := .tuple #[.agg #[.slice (some ⟨g, 0, none⟩) bs.length cb, .slice As es.length cs], .int .i64 0]) (by simp [results, Tryd.results96, go_sem, *]) rfl ?_
          refine ⟨some ⟨g, 0, none⟩, cb, As, cs, ?_, ?_, hRdo _ _, (by repeat (first | exact Below.refl _ _ | apply below_alloc | apply pw_below_drewN | apply below_drew1 | (refine Below.setCell ?_ (by first | (simp; done) | (simp; omega) | omega) _) | exact hB66))⟩
          · simp
          · simpa using hcS
        · go_simp
          refine hK.out _ _ ⟨(hkd.alloc _).at 0 _ rfl, (hXd.alloc _).at 1 _ rfl⟩ (fun hHeld => ?_)
          clear hK K
          refine wpAnyH_ready (rs := [8]) (by kernel_rfl) (by simp) ?_
          refine AllReadyH.cons (o := { dst := some 45, op := _, type := _, pos := _, after := _, guard := _ }) rfl (fun K hK => ?_) AllReadyH.nil
          go_simp
          refine hK.out _ _ ⟨(hkd.alloc _).at 0 _ rfl, (hXd.alloc _).at 1 _ rfl⟩ (fun hHeld => ?_)
          clear hK K
          refine wpAnyH_ready (rs := [15]) (by kernel_rfl) (by simp) ?_
          refine AllReadyH.cons (o := { dst := some 52, op := _, type := _, pos := _, after := _, guard := _ }) rfl (fun K hK => ?_) AllReadyH.nil
          refine mail_step base (by rfl) (.tmp 45) (.tmp 51) (by rfl) (.slice Am l.length cm) l ⟨nx, fl, tx⟩ (fun k => oki k ∨ k ≠ pb ∧ w5.drew.heap.size ≤ k) (by rfl) (by rfl) (fun k hk => .inr ⟨(by simp at hk; omega), hk⟩) hR1 (by simp; omega) (by omega) ?_
          intro v1 w6 hR6 hb6 hg6
          obtain ⟨A6, c6, h6⟩ := Kd.R_slice hR6
          rw [List.length_append] at h6
          subst h6
          have hz6 := hg6.size
          simp at hz6
          have hbo : some (w.heap.size + 1 + 1) ≠ (Value.slice Am l.length cm).ownBlock := fun he => by have := Kd.R_base hR _ he.symm; omega
          have z1 := (hg6.cell_far ⟨g, i * 3 + 1, none⟩ (by simp; omega) hgo).trans (cell_drew' y1)
          have z2 := (hg6.cell_far ⟨g, i * 3 + 2, none⟩ (by simp; omega) hgo).trans y2d
          have z3 : w6.frozen? ⟨g, i * 3 + 1, none⟩ = false := (hg6.frozen_far ⟨g, i * 3 + 1, none⟩ (by simp; omega) hgo).trans (by simpa using f1)
          have z4 : w6.frozen? ⟨g, i * 3 + 2, none⟩ = false := (hg6.frozen_far ⟨g, i * 3 + 2, none⟩ (by simp; omega) hgo).trans (by simpa using f2)
          have hk6 := (hk5.drew).grown hg6 hpo
          have hX6 := (hX5.drew).grown hg6 hbo
          refine hK.out _ _ ⟨hk6.at 0 _ rfl, hX6.at 1 _ rfl⟩ (fun hHeld => ?_)
          clear hK K
          refine wpAnyH_take (i := 16) (oi := { dst := some 53, op := _, type := _, pos := _, after := _, guard := _ }) (v := .pointer (some ⟨g, i * 3, none⟩)) rfl (by kernel_rfl) (by kernel_rfl) (by kernel_rfl) (fun _ _ _ h => h) (Or.inl ⟨by rfl, by (intro w hSw; (try dsimp only at hSw); first | (go_simp; done) | (go_simp; with_reducible rfl) | (go_simp; omega) | (go_simp; simp [*]; done))⟩) (by assumption) ?_; try simp only [Act.put, List.setIfInBounds_toArray, List.set_cons_zero, List.set_cons_succ]
          refine wpAnyH_take (i := 17) (oi := { dst := some 54, op := _, type := _, pos := _, after := _, guard := _ }) (v := .pointer (some ⟨g, i * 3 + 2, none⟩)) rfl (by kernel_rfl) (by kernel_rfl) (by kernel_rfl) (fun _ _ _ h => h) (Or.inl ⟨by rfl, by (intro w hSw; (try dsimp only at hSw); first | (go_simp; done) | (go_simp; with_reducible rfl) | (go_simp; omega) | (go_simp; simp [*]; done))⟩) (by assumption) ?_; try simp only [Act.put, List.setIfInBounds_toArray, List.set_cons_zero, List.set_cons_succ]
          refine wpAnyH_ready (rs := [18]) (by kernel_rfl) (by simp) ?_
          refine AllReadyH.cons (o := { dst := none, op := _, type := _, pos := _, after := _, guard := _ }) rfl (fun K hK => ?_) AllReadyH.nil
          go_simp
          have hk7 := hk6.other (c := g) (j := i * 3 + 2) hng (.slice A6 (l.length + 1) c6)
          have hX7 := hX6.other (c := g) (j := i * 3 + 2) ngb (.slice A6 (l.length + 1) c6)
          refine hK.out _ _ ⟨hk7.at 0 _ rfl, hX7.at 1 _ rfl⟩ (fun hHeld => ?_)
          clear hK K
          refine wpAnyH_done (by kernel_rfl) ?_ _
          have hH6 := Kd.H_grown hH1 hg6 (fun k hk => hR1.1 k hk)
          have hk8 := hk7.other (c := g) (j := i * 3 + 1) hng (.int .i64 (nx + 1))
          have hS8 := box_back (box_hole1 (nx' := nx + 1) (box_hole2 (v1 := .slice A6 (l.length + 1) c6) hH6 hi rfl) hi) (Kd.R_far (p := ⟨g, i * 3 + 1, none⟩) (Kd.R_far (p := ⟨g, i * 3 + 2, none⟩) hR6 hng3 (.slice A6 (l.length + 1) c6)) hng3 (.int .i64 (nx + 1)))
          have hg7 : w6.heap[g]? = some (.cells cells 77 (0, 0)) := (hg6.block g (by simp; omega) hgo).trans hgc
          have hE8 := Kd.R_mono (Kd.R_far (p := ⟨g, i * 3 + 1, none⟩) (Kd.R_far (p := ⟨g, i * 3 + 2, none⟩) (Kd.R_types (entries_over (Kd.R_drew hE5) hR1 hg6) hg7 (by decide)) (fun k hk => hk.2) (.slice A6 (l.length + 1) c6)) (fun k hk => hk.2) (.int .i64 (nx + 1))) (fun k hk => hk.1)
          have hB8 := Below.setCell (p := ⟨g, i * 3 + 1, none⟩) (Below.setCell (p := ⟨g, i * 3 + 2, none⟩) (Below.trans (below_drew (Below.refl base w5)) hb6) hgb (.slice A6 (l.length + 1) c6)) hgb (.int .i64 (nx + 1))
          have hQ8 := hQ5.below hB8 (by omega)
          have hBB := hB5.trans (hB8.mono (by omega))
          have hw : IntKind.i64.wrap (nx + 1) = nx + 1 := by rw [IntKind.wrap_i64]; omega
          have k0 := hk7.at 0 _ rfl
          have k1 := hk8.at 0 _ rfl
          have k2 := hk8.at 1 _ rfl
          have b0 := hX7.at 1 _ rfl
          have q0 := hQ8.at 0 _ rfl
          have q1 := hQ8.at 1 _ rfl
          have q2 := hQ8.free 0 _ rfl
          have q3 := hQ8.free 1 _ rfl
          have z5 : (w6.setCell ⟨g, i * 3 + 2, none⟩ (.slice A6 (l.length + 1) c6)).cell? ⟨g, i * 3 + 1, none⟩ = some (.int .i64 nx) := by
            rw [World.cell?_setCell_other _ _ _ _ (by simp)]; exact z1
          have hcS := (Kd.S_reads' hS8).2.1
          have hRdo := fun u1 u2 => Rd.own (Z := Z) (Kd.S_far (p := ⟨w.heap.size + 1, 1, none⟩) (Kd.S_far (p := ⟨w.heap.size + 1, 0, none⟩) (Kd.S_bound hS8) (fun k hk => by have := hk.2.1; show k ≠ w.heap.size + 1; omega) u1) (fun k hk => by have := hk.2.1; show k ≠ w.heap.size + 1; omega) u2) (Kd.R_far (p := ⟨w.heap.size + 1, 1, none⟩) (Kd.R_far (p := ⟨w.heap.size + 1, 0, none⟩) (Kd.R_bound hE8) (fun k hk => by have := hk.2.1; show k ≠ w.heap.size + 1; omega) u1) (fun k hk => by have := hk.2.1; show k ≠ w.heap.size + 1; omega) u2) (fun k _ hk hz => by have := hZ k hz; omega) (fun k _ hk hz => by have := hZ k hz; omega)
          have hB66 : Below w.heap.size w w6 := hB5.trans ((Below.trans (below_drew (Below.refl base w5)) hb6).mono (by omega))
          clear hH6 hH1 hH hR6 hR1 hR hE5 hS5 z1 z2 y1 y2 y2d y2a hg7 hE8 hS8
          go_wp2_with fail
          refine bodyPost_ret (v := .tuple #[.agg #[.slice (some ⟨g, 0, none⟩) bs.length cb, .slice As es.length cs], .int .i64 0]) (by simp [results, Tryd.results96, go_sem, *]) rfl ?_
          refine ⟨some ⟨g, 0, none⟩, cb, As, cs, ?_, ?_, hRdo _ _, (by repeat (first | exact Below.refl _ _ | apply below_alloc | apply pw_below_drewN | apply below_drew1 | (refine Below.setCell ?_ (by first | (simp; done) | (simp; omega) | omega) _) | exact hB66))⟩
          · simp
          · simpa using hcS
end Go.Proofs.YtijdghplfhfpaaaDoor.H

/- Boxes: the reference's entered: Spool, Create, no such box, Append. -/
namespace Go.Proofs.YtijdghplfhfpaaaDoor.H
open Go.RowKit Go.Proofs.YtijdghplfhfpaaaDoorW.PrintWords Go.Proofs.YtijdghplfhfpaaaDoorW.PrintLast Go.Proofs.YtijdghplfhfpaaaDoor.U
set_option linter.unusedVariables false
set_option linter.unusedSimpArgs false
section
variable {ops : Array Oper} {rest : List Oper} {o : Oper} {a : Act} {Q : Exit → Act → World → Prop}
theorem entry_list (base : Nat) {W : World} (hgd : o.guard = none) (s x : Operand)
    (ho : o.op = .call { callee := .builtin .append, args := #[s, x], argTypes := #[23, 23] })
    (v : Value) (xs : List AEntry) (p : AEntry) (ok : Nat → Prop) (hs : a.eval s = v) (hx : a.eval x = .slice (some ⟨W.heap.size, 0, none⟩) 1 1) (hfresh : ∀ k, W.heap.size ≤ k → ok k)
    (HO : Kd.R kAEntry 40 W base ok v xs) (hbase : base ≤ W.heap.size) (hl : (xs.length + 1) * 72 ≤ 140737488355328)
    (h : ∀ v1 w1, Kd.R kAEntry 40 w1 base ok v1 (xs ++ [p]) → Below base W w1 → W.grownBy w1 v.ownBlock → wpList Tryd.prog ops Q rest (a.put o.dst v1) w1) :
    wpList Tryd.prog ops Q (o :: rest) a (W.alloc (.cells #[.int .i64 p.kind, .string p.box, .int .i64 p.uid, .int .i64 p.flags, .string p.to_, .string p.text] 40)) :=
  Kd.R_append kAEntry (w0 := W) base hgd s x 23 40 _ 72 ho rowAEntry.ht rowAEntry.hinfo rowAEntry.hz rowAEntry.hs0 rowAEntry.hb0 v xs p [.int .i64 p.kind, .string p.box, .int .i64 p.uid, .int .i64 p.flags, .string p.to_, .string p.text] ok (fun _ => False) hs hx rfl (fun _ h => h.elim) hfresh HO (Below.refl _ _) hbase hl
    (fun v1 w1 hR hb hg _ => h v1 w1 hR hb hg)
theorem box_list (base : Nat) {W : World} (hgd : o.guard = none) (s x : Operand)
    (ho : o.op = .call { callee := .builtin .append, args := #[s, x], argTypes := #[22, 22] })
    (v : Value) (xs : List ABox) (nm : ByteArray) (nx : Int) (ok : Nat → Prop) (hs : a.eval s = v) (hx : a.eval x = .slice (some ⟨W.heap.size, 0, none⟩) 1 1) (hfresh : ∀ k, W.heap.size ≤ k → ok k)
    (HO : Kd.S kBox 77 W base ok v xs) (hbase : base ≤ W.heap.size) (hl : (xs.length + 1) * 48 ≤ 140737488355328)
    (h : ∀ v1 w1, Kd.S kBox 77 w1 base ok v1 (xs ++ [(nm, nx, [])]) → Below base W w1 → W.grownBy w1 v.ownBlock → wpList Tryd.prog ops Q rest (a.put o.dst v1) w1) :
    wpList Tryd.prog ops Q (o :: rest) a (W.alloc (.cells #[.string nm, .int .i64 nx, .slice none 0 0] 77)) :=
  Kd.S_append kBox (w0 := W) base hgd s x 22 77 (.agg #[.string ⟨#[]⟩, .int .i64 0, .slice none 0 0]) 48 ho Tryd.underlying22 (by kernel_rfl) rfl (by decide) (by decide) v xs (nm, nx, []) [.string nm, .int .i64 nx, .slice none 0 0] ok (fun _ => False) hs hx
    ⟨[.string nm], [.int .i64 nx, .slice none 0 0], rfl, rfl, ⟨[.int .i64 nx], [.slice none 0 0], rfl, rfl, ⟨_, rfl, Kd.R_nil _ _ _ _ _⟩⟩⟩
    (fun _ h => h.elim) hfresh (Kd.S_mono HO (fun k hk => ⟨hk, fun h => h⟩)) (Below.refl _ _) hbase hl (fun v1 w1 hR hb hg _ => h v1 w1 hR hb hg)
end
theorem own_out {Z : Nat → Prop} {w : World} {base n c n2 c2 : Nat} {ok ok2 : Nat → Prop} {A A2 : Option Addr} {bs : List ABox} {es : List AEntry} (hS : Kd.S kBox 77 w base ok (.slice A n c) bs) (hR : Kd.R kAEntry 40 w base ok2 (.slice A2 n2 c2) es) (hZ : ∀ k, Z k → k < base) :
    n = bs.length ∧ n ≤ c ∧ n2 = es.length ∧ ∀ b, b < base → ∀ u1 u2, Rd Z ((w.setCell ⟨b, 0, none⟩ u1).setCell ⟨b, 1, none⟩ u2) A bs A2 es := by
  obtain ⟨h1, h2, _⟩ := Kd.S_reads' hS
  obtain ⟨h3, _, _⟩ := Kd.R_reads' hR
  refine ⟨h1, h2, h3, fun b hb u1 u2 => ?_⟩
  exact Rd.own (Kd.S_far (p := ⟨b, 1, none⟩) (Kd.S_far (p := ⟨b, 0, none⟩) (Kd.S_bound hS) (fun k hk => by have := hk.2.1; show k ≠ b; omega) u1) (fun k hk => by have := hk.2.1; show k ≠ b; omega) u2)
    (Kd.R_far (p := ⟨b, 1, none⟩) (Kd.R_far (p := ⟨b, 0, none⟩) (Kd.R_bound hR) (fun k hk => by have := hk.2.1; show k ≠ b; omega) u1) (fun k hk => by have := hk.2.1; show k ≠ b; omega) u2)
    (fun k _ hk hz => by have := hZ k hz; omega) (fun k _ hk hz => by have := hZ k hz; omega)
set_option maxHeartbeats 2000000 in
set_option maxRecDepth 100000 in
theorem entered_spool (Z : Nat → Prop) (bx : ByteArray) (u f : Int) (to_ tx : ByteArray) (A : Option Addr) (c : Nat) (bs : List ABox) (A2 : Option Addr) (c2 : Nat) (es : List AEntry) (w : World) (hrd : Rd Z w A bs A2 es) (hZ : ∀ k, Z k → k < w.heap.size) (hc : bs.length ≤ c) (hinv : InvS bs es) :
    Calls Tryd.prog 57 #[.agg #[.slice A bs.length c, .slice A2 es.length c2], .agg #[.int .i64 6, .string bx, .int .i64 u, .int .i64 f, .string to_, .string tx]] w (PostSt Z w (entV bs es ⟨6, bx, u, f, to_, tx⟩)) := by
  obtain ⟨hr, hr2⟩ := hrd.now
  have hev : entV bs es ⟨6, bx, u, f, to_, tx⟩ = if 20 ≤ es.length then (5, bs, es) else (0, bs, es ++ [⟨6, bx, u, f, to_, tx⟩]) := if_pos rfl
  rw [hev]
  clear hev
  obtain ⟨fi, hfi⟩ : ∃ fi, findG bx bs 0 = fi := ⟨_, rfl⟩
  by_cases hf : 20 ≤ es.length
  · rw [if_pos hf]
    have e20 : (20 : Int) ≤ (es.length : Int) := by omega
    obtain ⟨W3, hW3⟩ : ∃ W3 : World, W3 = ((w.alloc (.cells #[.slice (A) bs.length c, .slice A2 es.length c2] 25)).alloc (.cells #[.int .i64 6, .string bx, .int .i64 u, .int .i64 f, .string to_, .string tx] 40)).alloc (.cells #[.slice none 0 0, .slice none 0 0] 25) := ⟨_, rfl⟩
    have hP0 : Blk W3 w.heap.size [.slice (A) bs.length c, .slice A2 es.length c2] := by rw [hW3]; exact ((Blk.made w _ _).alloc _).alloc _
    have hX0 : Blk W3 (w.heap.size + 1) [.int .i64 6, .string bx, .int .i64 u, .int .i64 f, .string to_, .string tx] := by rw [hW3]; exact (Blk.made_at _ _ _ (by simp)).alloc _
    have hQ0 : Blk W3 (w.heap.size + 1 + 1) [.slice none 0 0, .slice none 0 0] := by rw [hW3]; exact Blk.made_at _ _ _ (by simp)
    have hB0 : Below w.heap.size w W3 := by rw [hW3]; exact (by repeat (first | exact Below.refl _ _ | apply below_alloc | apply pw_below_drewN | apply below_drew1 | (refine Below.setCell ?_ (by first | (simp; done) | (simp; omega) | omega) _) ))
    have hz0 : W3.heap.size = w.heap.size + 1 + 1 + 1 := by rw [hW3]; simp
    replace hW3 := Lib.hid hW3
    have hi1 := hinv.1
    have hi2 := hinv.2.1
    have hb30 : ∀ b ∈ bs, b.2.2.length ≤ 1048576 := fun b hb => by have := (hinv.2.2 b hb).2.2.2.1; omega
    have HSC := Lib.hid (stateCopy_calls (A) c bs A2 c2 es W3 (Kd.C_below hr hB0) (Kd.C_below hr2 hB0) (by omega) (by omega) hb30)
    have HF := fun W hr => boxOf_calls (A) c bs bx W hr
    simp only [hfi] at HF
    replace HF := Lib.hid HF
    clear hfi hf
    go_enter Tryd.func57, Tryd.ntmps57
    go_wp2_with fail
    rw [← hW3.out]
    refine HSC.out.mono ?_
    rintro e w3 ⟨vB, vS, rfl, hS3, hE3, hb3⟩
    obtain ⟨Ab, cb, rfl⟩ := Kd.S_slice hS3
    obtain ⟨As, cs, rfl⟩ := Kd.R_slice hE3
    have hz3 := hb3.size
    obtain ⟨pb, hpbe⟩ : ∃ pb, pb = w3.heap.size := ⟨_, rfl⟩
    obtain ⟨base, hbe⟩ : ∃ base, base = W3.heap.size := ⟨_, rfl⟩
    obtain ⟨w5, hW5⟩ : ∃ w5 : World, w5 = w3.alloc (.cells #[.slice Ab bs.length cb, .slice As es.length cs] 25) := ⟨_, rfl⟩
    have hP5 : Blk w5 w.heap.size [.slice (A) bs.length c, .slice A2 es.length c2] := by rw [hW5]; exact (hP0.below hb3 (by omega)).alloc _
    have hX5 : Blk w5 (w.heap.size + 1) [.int .i64 6, .string bx, .int .i64 u, .int .i64 f, .string to_, .string tx] := by rw [hW5]; exact (hX0.below hb3 (by omega)).alloc _
    have hQ5 : Blk w5 (w.heap.size + 1 + 1) [.slice none 0 0, .slice none 0 0] := by rw [hW5]; exact (hQ0.below hb3 (by omega)).alloc _
    have hk5 : Blk w5 pb [.slice Ab bs.length cb, .slice As es.length cs] := by rw [hW5, hpbe]; exact Blk.made _ _ _
    have hB5 : Below w.heap.size w w5 := by rw [hW5]; exact below_alloc' (hB0.trans (hb3.mono (by omega))) (by omega) _
    have hS5 : Kd.S kBox 77 w5 base (fun k => k ≠ pb) (.slice Ab bs.length cb) bs := by rw [hW5, hbe, hpbe]; exact Kd.S_mono (Kd.S_below (Kd.S_bound hS3) (by repeat (first | exact Below.refl _ _ | apply below_alloc | apply pw_below_drewN | apply below_drew1 | (refine Below.setCell ?_ (by first | (simp; done) | (simp; omega) | omega) _) ))) (fun k hk => by have := hk.2.2.1; show k ≠ _; omega)
    have hE5 : Kd.R kAEntry 40 w5 base (fun k => k ≠ pb) (.slice As es.length cs) es := by rw [hW5, hbe, hpbe]; exact Kd.R_mono (Kd.R_below (Kd.R_bound hE3) (by repeat (first | exact Below.refl _ _ | apply below_alloc | apply pw_below_drewN | apply below_drew1 | (refine Below.setCell ?_ (by first | (simp; done) | (simp; omega) | omega) _) ))) (fun k hk => by have := hk.2.2.1; show k ≠ _; omega)
    have hp : base ≤ pb := by omega
    have hbw : w.heap.size + 1 + 1 < base := by omega
    have hC5 := Kd.C_below hr hB5
    have hz5k := hk5.lt
    have hz5p := hP5.lt
    have hz5x := hX5.lt
    have hz5q := hQ5.lt
    have p0 := (hP0.below hb3 (by omega)).at 0 _ rfl
    have x1 := (hX0.below hb3 (by omega)).at 1 _ rfl
    have hlt1 : w.heap.size < w3.heap.size := by omega
    have hlt2 : w.heap.size + 1 < w3.heap.size := by omega
    replace hW5 := Lib.hid hW5
    replace hpbe := Lib.hid hpbe
    clear hP0 hX0 hQ0 hB0 hb3 hS3 hE3 hbe hz0 hz3 hW3 HSC
    go_wp2_with fail
    rw [← hW5.out, ← hpbe.out]
    clear p0 x1 hlt1 hlt2
    have p0 := hP5.at 0 _ rfl
    have p1 := hP5.at 1 _ rfl
    have x0 := hX5.at 0 _ rfl
    have x1 := hX5.at 1 _ rfl
    have x2 := hX5.at 2 _ rfl
    have x3 := hX5.at 3 _ rfl
    have x4 := hX5.at 4 _ rfl
    have x5 := hX5.at 5 _ rfl
    have k0 := hk5.at 0 _ rfl
    have k1 := hk5.at 1 _ rfl
    refine (HF.out _ hC5).mono ?_
    rintro e w' ⟨rfl, rfl⟩
    have q0 := hQ5.at 0 _ rfl
    have q1 := hQ5.at 1 _ rfl
    have q2 := hQ5.free 0 _ rfl
    have q3 := hQ5.free 1 _ rfl
    go_wp2_with fail
    refine bodyPost_ret (v := .tuple #[.agg #[.slice (A) bs.length c, .slice A2 es.length c2], .int .i64 5]) (by simp [results, Tryd.results57, go_sem, *]) rfl ?_
    exact ⟨A, c, A2, c2, rfl, hc, hrd.below (by repeat (first | exact Below.refl _ _ | apply below_alloc | apply pw_below_drewN | apply below_drew1 | (refine Below.setCell ?_ (by first | (simp; done) | (simp; omega) | omega) _) | exact hB5)), (by repeat (first | exact Below.refl _ _ | apply below_alloc | apply pw_below_drewN | apply below_drew1 | (refine Below.setCell ?_ (by first | (simp; done) | (simp; omega) | omega) _) | exact hB5))⟩
  · rw [if_neg hf]
    have e20 : ¬ (20 : Int) ≤ (es.length : Int) := by omega
    obtain ⟨W3, hW3⟩ : ∃ W3 : World, W3 = ((w.alloc (.cells #[.slice (A) bs.length c, .slice A2 es.length c2] 25)).alloc (.cells #[.int .i64 6, .string bx, .int .i64 u, .int .i64 f, .string to_, .string tx] 40)).alloc (.cells #[.slice none 0 0, .slice none 0 0] 25) := ⟨_, rfl⟩
    have hP0 : Blk W3 w.heap.size [.slice (A) bs.length c, .slice A2 es.length c2] := by rw [hW3]; exact ((Blk.made w _ _).alloc _).alloc _
    have hX0 : Blk W3 (w.heap.size + 1) [.int .i64 6, .string bx, .int .i64 u, .int .i64 f, .string to_, .string tx] := by rw [hW3]; exact (Blk.made_at _ _ _ (by simp)).alloc _
    have hQ0 : Blk W3 (w.heap.size + 1 + 1) [.slice none 0 0, .slice none 0 0] := by rw [hW3]; exact Blk.made_at _ _ _ (by simp)
    have hB0 : Below w.heap.size w W3 := by rw [hW3]; exact (by repeat (first | exact Below.refl _ _ | apply below_alloc | apply pw_below_drewN | apply below_drew1 | (refine Below.setCell ?_ (by first | (simp; done) | (simp; omega) | omega) _) ))
    have hz0 : W3.heap.size = w.heap.size + 1 + 1 + 1 := by rw [hW3]; simp
    replace hW3 := Lib.hid hW3
    have hi1 := hinv.1
    have hi2 := hinv.2.1
    have hb30 : ∀ b ∈ bs, b.2.2.length ≤ 1048576 := fun b hb => by have := (hinv.2.2 b hb).2.2.2.1; omega
    have HSC := Lib.hid (stateCopy_calls (A) c bs A2 c2 es W3 (Kd.C_below hr hB0) (Kd.C_below hr2 hB0) (by omega) (by omega) hb30)
    have HF := fun W hr => boxOf_calls (A) c bs bx W hr
    simp only [hfi] at HF
    replace HF := Lib.hid HF
    clear hfi hf
    go_enter Tryd.func57, Tryd.ntmps57
    go_wp2_with fail
    rw [← hW3.out]
    refine HSC.out.mono ?_
    rintro e w3 ⟨vB, vS, rfl, hS3, hE3, hb3⟩
    obtain ⟨Ab, cb, rfl⟩ := Kd.S_slice hS3
    obtain ⟨As, cs, rfl⟩ := Kd.R_slice hE3
    have hz3 := hb3.size
    obtain ⟨pb, hpbe⟩ : ∃ pb, pb = w3.heap.size := ⟨_, rfl⟩
    obtain ⟨base, hbe⟩ : ∃ base, base = W3.heap.size := ⟨_, rfl⟩
    obtain ⟨w5, hW5⟩ : ∃ w5 : World, w5 = w3.alloc (.cells #[.slice Ab bs.length cb, .slice As es.length cs] 25) := ⟨_, rfl⟩
    have hP5 : Blk w5 w.heap.size [.slice (A) bs.length c, .slice A2 es.length c2] := by rw [hW5]; exact (hP0.below hb3 (by omega)).alloc _
    have hX5 : Blk w5 (w.heap.size + 1) [.int .i64 6, .string bx, .int .i64 u, .int .i64 f, .string to_, .string tx] := by rw [hW5]; exact (hX0.below hb3 (by omega)).alloc _
    have hQ5 : Blk w5 (w.heap.size + 1 + 1) [.slice none 0 0, .slice none 0 0] := by rw [hW5]; exact (hQ0.below hb3 (by omega)).alloc _
    have hk5 : Blk w5 pb [.slice Ab bs.length cb, .slice As es.length cs] := by rw [hW5, hpbe]; exact Blk.made _ _ _
    have hB5 : Below w.heap.size w w5 := by rw [hW5]; exact below_alloc' (hB0.trans (hb3.mono (by omega))) (by omega) _
    have hS5 : Kd.S kBox 77 w5 base (fun k => k ≠ pb) (.slice Ab bs.length cb) bs := by rw [hW5, hbe, hpbe]; exact Kd.S_mono (Kd.S_below (Kd.S_bound hS3) (by repeat (first | exact Below.refl _ _ | apply below_alloc | apply pw_below_drewN | apply below_drew1 | (refine Below.setCell ?_ (by first | (simp; done) | (simp; omega) | omega) _) ))) (fun k hk => by have := hk.2.2.1; show k ≠ _; omega)
    have hE5 : Kd.R kAEntry 40 w5 base (fun k => k ≠ pb) (.slice As es.length cs) es := by rw [hW5, hbe, hpbe]; exact Kd.R_mono (Kd.R_below (Kd.R_bound hE3) (by repeat (first | exact Below.refl _ _ | apply below_alloc | apply pw_below_drewN | apply below_drew1 | (refine Below.setCell ?_ (by first | (simp; done) | (simp; omega) | omega) _) ))) (fun k hk => by have := hk.2.2.1; show k ≠ _; omega)
    have hp : base ≤ pb := by omega
    have hbw : w.heap.size + 1 + 1 < base := by omega
    have hC5 := Kd.C_below hr hB5
    have hz5k := hk5.lt
    have hz5p := hP5.lt
    have hz5x := hX5.lt
    have hz5q := hQ5.lt
    have p0 := (hP0.below hb3 (by omega)).at 0 _ rfl
    have x1 := (hX0.below hb3 (by omega)).at 1 _ rfl
    have hlt1 : w.heap.size < w3.heap.size := by omega
    have hlt2 : w.heap.size + 1 < w3.heap.size := by omega
    replace hW5 := Lib.hid hW5
    replace hpbe := Lib.hid hpbe
    clear hP0 hX0 hQ0 hB0 hb3 hS3 hE3 hbe hz0 hz3 hW3 HSC
    go_wp2_with fail
    rw [← hW5.out, ← hpbe.out]
    clear p0 x1 hlt1 hlt2
    have p0 := hP5.at 0 _ rfl
    have p1 := hP5.at 1 _ rfl
    have x0 := hX5.at 0 _ rfl
    have x1 := hX5.at 1 _ rfl
    have x2 := hX5.at 2 _ rfl
    have x3 := hX5.at 3 _ rfl
    have x4 := hX5.at 4 _ rfl
    have x5 := hX5.at 5 _ rfl
    have k0 := hk5.at 0 _ rfl
    have k1 := hk5.at 1 _ rfl
    refine (HF.out _ hC5).mono ?_
    rintro e w' ⟨rfl, rfl⟩
    go_wp2_with (at_builtin; refine entry_list base rfl _ _ rfl (.slice As es.length cs) es ⟨6, bx, u, f, to_, tx⟩ (fun k => k ≠ pb) (by first | rfl | (simp [Act.eval]; done)) (by first | rfl | (simp [Act.eval]; done)) (fun k hk => (by omega)) hE5 (by omega) (by omega) ?_)
    intro v1 w6 hR6 hb6 hg6
    obtain ⟨A6, c6, h6⟩ := Kd.R_slice hR6
    rw [List.length_append] at h6
    subst h6
    have hpo : some pb ≠ (Value.slice As es.length cs).ownBlock := fun he => hE5.1 pb he.symm rfl
    have hk6 := hk5.grown hg6 hpo
    have hS6 := Kd.S_over' hS5 (Kd.R_typed hE5) (by decide) hg6
    have hQ6 := hQ5.below hb6 (by omega)
    have hB6 := hB5.trans (hb6.mono (by omega))
    have hz6 := hb6.size
    have g1 := hk6.at 1 _ rfl
    have g2 := hk6.free 1 _ rfl
    have hk7 := hk6.set 1 (.slice A6 (es.length + 1) c6) (by simp)
    have hS7 := Kd.S_far (p := ⟨pb, 1, none⟩) hS6 (fun k hk => hk) (.slice A6 (es.length + 1) c6)
    have hR7 := Kd.R_far (p := ⟨pb, 1, none⟩) hR6 (fun k hk => hk) (.slice A6 (es.length + 1) c6)
    have hQ7 := hQ6.other (c := pb) (j := 1) (by omega) (.slice A6 (es.length + 1) c6)
    have hlz : w.heap.size + 1 + 1 < w6.heap.size := by omega
    have r0 := hk7.at 0 _ rfl
    obtain ⟨hn1, hn2, hn3, hCo⟩ := own_out (Z := Z) hS7 hR7 (fun k hk => by have := hZ k hk; omega)
    have q0 := (hQ7).at 0 _ rfl
    have q1 := (hQ7).at 1 _ rfl
    have q2 := (hQ7).free 0 _ rfl
    have q3 := (hQ7).free 1 _ rfl
    replace hn1 := Lib.hid hn1
    replace hn3 := Lib.hid hn3
    go_wp2_with fail
    refine bodyPost_ret (v := .tuple #[.agg #[.slice (Ab) (bs.length) cb, .slice (A6) (es.length + 1) c6], .int .i64 0]) (by simp [results, Tryd.results57, go_sem, *]) rfl ?_
    exact ⟨Ab, cb, A6, c6, by simp, by first | exact hn2 | (rw [← hn1.out]; exact hn2) | (simp; omega), hCo _ (by omega) _ _, (by repeat (first | exact Below.refl _ _ | apply below_alloc | apply pw_below_drewN | apply below_drew1 | (refine Below.setCell ?_ (by first | (simp; done) | (simp; omega) | omega) _) | exact hB6))⟩
end Go.Proofs.YtijdghplfhfpaaaDoor.H

/- Boxes: the reference's entered: Create, no such box, Append. -/
namespace Go.Proofs.YtijdghplfhfpaaaDoor.H
open Go.RowKit Go.Proofs.YtijdghplfhfpaaaDoorW.PrintWords Go.Proofs.YtijdghplfhfpaaaDoorW.PrintLast Go.Proofs.YtijdghplfhfpaaaDoor.U
set_option linter.unusedVariables false
set_option linter.unusedSimpArgs false
theorem Rd.stored {Z : Nat → Prop} {w : World} {A A2 : Option Addr} {bs : List ABox} {es : List AEntry} (h : Rd Z w A bs A2 es) {r : Nat} (hr : Z r) (j : Nat) (u : Value) : Rd Z (w.setCell ⟨r, j, none⟩ u) A bs A2 es :=
  h.step (by simp) (fun k hz _ => Below.heap_setCell w ⟨r, j, none⟩ u k (fun he => hz (by rw [he]; exact hr))) (fun _ _ h => h)
theorem Rd.less {Z Z' : Nat → Prop} {w : World} {A A2 : Option Addr} {bs : List ABox} {es : List AEntry} (h : Rd Z w A bs A2 es) (hZ : ∀ k, Z' k → Z k) : Rd Z' w A bs A2 es := h.step (Nat.le_refl _) (fun _ _ _ => rfl) (fun k _ hz => hZ k hz)
set_option maxHeartbeats 2000000 in
set_option maxRecDepth 100000 in
theorem entered_create (Z : Nat → Prop) (bx : ByteArray) (u f : Int) (to_ tx : ByteArray) (A : Option Addr) (c : Nat) (bs : List ABox) (A2 : Option Addr) (c2 : Nat) (es : List AEntry) (w : World) (hrd : Rd Z w A bs A2 es) (hZ : ∀ k, Z k → k < w.heap.size) (hc : bs.length ≤ c) (hinv : InvS bs es) :
    Calls Tryd.prog 57 #[.agg #[.slice A bs.length c, .slice A2 es.length c2], .agg #[.int .i64 1, .string bx, .int .i64 u, .int .i64 f, .string to_, .string tx]] w (PostSt Z w (entV bs es ⟨1, bx, u, f, to_, tx⟩)) := by
  obtain ⟨hr, hr2⟩ := hrd.now
  have hev : entV bs es ⟨1, bx, u, f, to_, tx⟩ = if 0 ≤ findG bx bs 0 then (10, bs, es) else if 5 ≤ bs.length then (5, bs, es) else (0, bs ++ [(bx, 1, [])], es) := (if_neg (by show ¬ ((1 : Int) = 6); decide)).trans (if_pos rfl)
  rw [hev]
  clear hev
  obtain ⟨fi, hfi⟩ : ∃ fi, findG bx bs 0 = fi := ⟨_, rfl⟩
  rw [hfi]
  by_cases hf0 : 0 ≤ fi
  · rw [if_pos hf0]
    obtain ⟨W3, hW3⟩ : ∃ W3 : World, W3 = ((w.alloc (.cells #[.slice (A) bs.length c, .slice A2 es.length c2] 25)).alloc (.cells #[.int .i64 1, .string bx, .int .i64 u, .int .i64 f, .string to_, .string tx] 40)).alloc (.cells #[.slice none 0 0, .slice none 0 0] 25) := ⟨_, rfl⟩
    have hP0 : Blk W3 w.heap.size [.slice (A) bs.length c, .slice A2 es.length c2] := by rw [hW3]; exact ((Blk.made w _ _).alloc _).alloc _
    have hX0 : Blk W3 (w.heap.size + 1) [.int .i64 1, .string bx, .int .i64 u, .int .i64 f, .string to_, .string tx] := by rw [hW3]; exact (Blk.made_at _ _ _ (by simp)).alloc _
    have hQ0 : Blk W3 (w.heap.size + 1 + 1) [.slice none 0 0, .slice none 0 0] := by rw [hW3]; exact Blk.made_at _ _ _ (by simp)
    have hB0 : Below w.heap.size w W3 := by rw [hW3]; exact (by repeat (first | exact Below.refl _ _ | apply below_alloc | apply pw_below_drewN | apply below_drew1 | (refine Below.setCell ?_ (by first | (simp; done) | (simp; omega) | omega) _) ))
    have hz0 : W3.heap.size = w.heap.size + 1 + 1 + 1 := by rw [hW3]; simp
    replace hW3 := Lib.hid hW3
    have hi1 := hinv.1
    have hi2 := hinv.2.1
    have hb30 : ∀ b ∈ bs, b.2.2.length ≤ 1048576 := fun b hb => by have := (hinv.2.2 b hb).2.2.2.1; omega
    have HSC := Lib.hid (stateCopy_calls (A) c bs A2 c2 es W3 (Kd.C_below hr hB0) (Kd.C_below hr2 hB0) (by omega) (by omega) hb30)
    have HF := fun W hr => boxOf_calls (A) c bs bx W hr
    simp only [hfi] at HF
    replace HF := Lib.hid HF
    clear hfi
    go_enter Tryd.func57, Tryd.ntmps57
    go_wp2_with fail
    rw [← hW3.out]
    refine HSC.out.mono ?_
    rintro e w3 ⟨vB, vS, rfl, hS3, hE3, hb3⟩
    obtain ⟨Ab, cb, rfl⟩ := Kd.S_slice hS3
    obtain ⟨As, cs, rfl⟩ := Kd.R_slice hE3
    have hz3 := hb3.size
    obtain ⟨pb, hpbe⟩ : ∃ pb, pb = w3.heap.size := ⟨_, rfl⟩
    obtain ⟨base, hbe⟩ : ∃ base, base = W3.heap.size := ⟨_, rfl⟩
    obtain ⟨w5, hW5⟩ : ∃ w5 : World, w5 = w3.alloc (.cells #[.slice Ab bs.length cb, .slice As es.length cs] 25) := ⟨_, rfl⟩
    have hP5 : Blk w5 w.heap.size [.slice (A) bs.length c, .slice A2 es.length c2] := by rw [hW5]; exact (hP0.below hb3 (by omega)).alloc _
    have hX5 : Blk w5 (w.heap.size + 1) [.int .i64 1, .string bx, .int .i64 u, .int .i64 f, .string to_, .string tx] := by rw [hW5]; exact (hX0.below hb3 (by omega)).alloc _
    have hQ5 : Blk w5 (w.heap.size + 1 + 1) [.slice none 0 0, .slice none 0 0] := by rw [hW5]; exact (hQ0.below hb3 (by omega)).alloc _
    have hk5 : Blk w5 pb [.slice Ab bs.length cb, .slice As es.length cs] := by rw [hW5, hpbe]; exact Blk.made _ _ _
    have hB5 : Below w.heap.size w w5 := by rw [hW5]; exact below_alloc' (hB0.trans (hb3.mono (by omega))) (by omega) _
    have hS5 : Kd.S kBox 77 w5 base (fun k => k ≠ pb) (.slice Ab bs.length cb) bs := by rw [hW5, hbe, hpbe]; exact Kd.S_mono (Kd.S_below (Kd.S_bound hS3) (by repeat (first | exact Below.refl _ _ | apply below_alloc | apply pw_below_drewN | apply below_drew1 | (refine Below.setCell ?_ (by first | (simp; done) | (simp; omega) | omega) _) ))) (fun k hk => by have := hk.2.2.1; show k ≠ _; omega)
    have hE5 : Kd.R kAEntry 40 w5 base (fun k => k ≠ pb) (.slice As es.length cs) es := by rw [hW5, hbe, hpbe]; exact Kd.R_mono (Kd.R_below (Kd.R_bound hE3) (by repeat (first | exact Below.refl _ _ | apply below_alloc | apply pw_below_drewN | apply below_drew1 | (refine Below.setCell ?_ (by first | (simp; done) | (simp; omega) | omega) _) ))) (fun k hk => by have := hk.2.2.1; show k ≠ _; omega)
    have hp : base ≤ pb := by omega
    have hbw : w.heap.size + 1 + 1 < base := by omega
    have hC5 := Kd.C_below hr hB5
    have hz5k := hk5.lt
    have hz5p := hP5.lt
    have hz5x := hX5.lt
    have hz5q := hQ5.lt
    have p0 := (hP0.below hb3 (by omega)).at 0 _ rfl
    have x1 := (hX0.below hb3 (by omega)).at 1 _ rfl
    have hlt1 : w.heap.size < w3.heap.size := by omega
    have hlt2 : w.heap.size + 1 < w3.heap.size := by omega
    replace hW5 := Lib.hid hW5
    replace hpbe := Lib.hid hpbe
    clear hP0 hX0 hQ0 hB0 hb3 hS3 hE3 hbe hz0 hz3 hW3 HSC
    go_wp2_with fail
    rw [← hW5.out, ← hpbe.out]
    clear p0 x1 hlt1 hlt2
    have p0 := hP5.at 0 _ rfl
    have p1 := hP5.at 1 _ rfl
    have x0 := hX5.at 0 _ rfl
    have x1 := hX5.at 1 _ rfl
    have x2 := hX5.at 2 _ rfl
    have x3 := hX5.at 3 _ rfl
    have x4 := hX5.at 4 _ rfl
    have x5 := hX5.at 5 _ rfl
    have k0 := hk5.at 0 _ rfl
    have k1 := hk5.at 1 _ rfl
    refine (HF.out _ hC5).mono ?_
    rintro e w' ⟨rfl, rfl⟩
    have q0 := hQ5.at 0 _ rfl
    have q1 := hQ5.at 1 _ rfl
    have q2 := hQ5.free 0 _ rfl
    have q3 := hQ5.free 1 _ rfl
    go_wp2_with fail
    refine bodyPost_ret (v := .tuple #[.agg #[.slice (A) bs.length c, .slice A2 es.length c2], .int .i64 10]) (by simp [results, Tryd.results57, go_sem, *]) rfl ?_
    exact ⟨A, c, A2, c2, rfl, hc, hrd.below (by repeat (first | exact Below.refl _ _ | apply below_alloc | apply pw_below_drewN | apply below_drew1 | (refine Below.setCell ?_ (by first | (simp; done) | (simp; omega) | omega) _) | exact hB5)), (by repeat (first | exact Below.refl _ _ | apply below_alloc | apply pw_below_drewN | apply below_drew1 | (refine Below.setCell ?_ (by first | (simp; done) | (simp; omega) | omega) _) | exact hB5))⟩
  · rw [if_neg hf0]
    by_cases hf : 5 ≤ bs.length
    · rw [if_pos hf]
      have e5 : (5 : Int) ≤ (bs.length : Int) := by omega
      obtain ⟨W3, hW3⟩ : ∃ W3 : World, W3 = ((w.alloc (.cells #[.slice (A) bs.length c, .slice A2 es.length c2] 25)).alloc (.cells #[.int .i64 1, .string bx, .int .i64 u, .int .i64 f, .string to_, .string tx] 40)).alloc (.cells #[.slice none 0 0, .slice none 0 0] 25) := ⟨_, rfl⟩
      have hP0 : Blk W3 w.heap.size [.slice (A) bs.length c, .slice A2 es.length c2] := by rw [hW3]; exact ((Blk.made w _ _).alloc _).alloc _
      have hX0 : Blk W3 (w.heap.size + 1) [.int .i64 1, .string bx, .int .i64 u, .int .i64 f, .string to_, .string tx] := by rw [hW3]; exact (Blk.made_at _ _ _ (by simp)).alloc _
      have hQ0 : Blk W3 (w.heap.size + 1 + 1) [.slice none 0 0, .slice none 0 0] := by rw [hW3]; exact Blk.made_at _ _ _ (by simp)
      have hB0 : Below w.heap.size w W3 := by rw [hW3]; exact (by repeat (first | exact Below.refl _ _ | apply below_alloc | apply pw_below_drewN | apply below_drew1 | (refine Below.setCell ?_ (by first | (simp; done) | (simp; omega) | omega) _) ))
      have hz0 : W3.heap.size = w.heap.size + 1 + 1 + 1 := by rw [hW3]; simp
      replace hW3 := Lib.hid hW3
      have hi1 := hinv.1
      have hi2 := hinv.2.1
      have hb30 : ∀ b ∈ bs, b.2.2.length ≤ 1048576 := fun b hb => by have := (hinv.2.2 b hb).2.2.2.1; omega
      have HSC := Lib.hid (stateCopy_calls (A) c bs A2 c2 es W3 (Kd.C_below hr hB0) (Kd.C_below hr2 hB0) (by omega) (by omega) hb30)
      have HF := fun W hr => boxOf_calls (A) c bs bx W hr
      simp only [hfi] at HF
      replace HF := Lib.hid HF
      clear hfi hf
      go_enter Tryd.func57, Tryd.ntmps57
      go_wp2_with fail
      rw [← hW3.out]
      refine HSC.out.mono ?_
      rintro e w3 ⟨vB, vS, rfl, hS3, hE3, hb3⟩
      obtain ⟨Ab, cb, rfl⟩ := Kd.S_slice hS3
      obtain ⟨As, cs, rfl⟩ := Kd.R_slice hE3
      have hz3 := hb3.size
      obtain ⟨pb, hpbe⟩ : ∃ pb, pb = w3.heap.size := ⟨_, rfl⟩
      obtain ⟨base, hbe⟩ : ∃ base, base = W3.heap.size := ⟨_, rfl⟩
      obtain ⟨w5, hW5⟩ : ∃ w5 : World, w5 = w3.alloc (.cells #[.slice Ab bs.length cb, .slice As es.length cs] 25) := ⟨_, rfl⟩
      have hP5 : Blk w5 w.heap.size [.slice (A) bs.length c, .slice A2 es.length c2] := by rw [hW5]; exact (hP0.below hb3 (by omega)).alloc _
      have hX5 : Blk w5 (w.heap.size + 1) [.int .i64 1, .string bx, .int .i64 u, .int .i64 f, .string to_, .string tx] := by rw [hW5]; exact (hX0.below hb3 (by omega)).alloc _
      have hQ5 : Blk w5 (w.heap.size + 1 + 1) [.slice none 0 0, .slice none 0 0] := by rw [hW5]; exact (hQ0.below hb3 (by omega)).alloc _
      have hk5 : Blk w5 pb [.slice Ab bs.length cb, .slice As es.length cs] := by rw [hW5, hpbe]; exact Blk.made _ _ _
      have hB5 : Below w.heap.size w w5 := by rw [hW5]; exact below_alloc' (hB0.trans (hb3.mono (by omega))) (by omega) _
      have hS5 : Kd.S kBox 77 w5 base (fun k => k ≠ pb) (.slice Ab bs.length cb) bs := by rw [hW5, hbe, hpbe]; exact Kd.S_mono (Kd.S_below (Kd.S_bound hS3) (by repeat (first | exact Below.refl _ _ | apply below_alloc | apply pw_below_drewN | apply below_drew1 | (refine Below.setCell ?_ (by first | (simp; done) | (simp; omega) | omega) _) ))) (fun k hk => by have := hk.2.2.1; show k ≠ _; omega)
      have hE5 : Kd.R kAEntry 40 w5 base (fun k => k ≠ pb) (.slice As es.length cs) es := by rw [hW5, hbe, hpbe]; exact Kd.R_mono (Kd.R_below (Kd.R_bound hE3) (by repeat (first | exact Below.refl _ _ | apply below_alloc | apply pw_below_drewN | apply below_drew1 | (refine Below.setCell ?_ (by first | (simp; done) | (simp; omega) | omega) _) ))) (fun k hk => by have := hk.2.2.1; show k ≠ _; omega)
      have hp : base ≤ pb := by omega
      have hbw : w.heap.size + 1 + 1 < base := by omega
      have hC5 := Kd.C_below hr hB5
      have hz5k := hk5.lt
      have hz5p := hP5.lt
      have hz5x := hX5.lt
      have hz5q := hQ5.lt
      have p0 := (hP0.below hb3 (by omega)).at 0 _ rfl
      have x1 := (hX0.below hb3 (by omega)).at 1 _ rfl
      have hlt1 : w.heap.size < w3.heap.size := by omega
      have hlt2 : w.heap.size + 1 < w3.heap.size := by omega
      replace hW5 := Lib.hid hW5
      replace hpbe := Lib.hid hpbe
      clear hP0 hX0 hQ0 hB0 hb3 hS3 hE3 hbe hz0 hz3 hW3 HSC
      go_wp2_with fail
      rw [← hW5.out, ← hpbe.out]
      clear p0 x1 hlt1 hlt2
      have p0 := hP5.at 0 _ rfl
      have p1 := hP5.at 1 _ rfl
      have x0 := hX5.at 0 _ rfl
      have x1 := hX5.at 1 _ rfl
      have x2 := hX5.at 2 _ rfl
      have x3 := hX5.at 3 _ rfl
      have x4 := hX5.at 4 _ rfl
      have x5 := hX5.at 5 _ rfl
      have k0 := hk5.at 0 _ rfl
      have k1 := hk5.at 1 _ rfl
      refine (HF.out _ hC5).mono ?_
      rintro e w' ⟨rfl, rfl⟩
      have q0 := hQ5.at 0 _ rfl
      have q1 := hQ5.at 1 _ rfl
      have q2 := hQ5.free 0 _ rfl
      have q3 := hQ5.free 1 _ rfl
      go_wp2_with fail
      refine bodyPost_ret (v := .tuple #[.agg #[.slice (A) bs.length c, .slice A2 es.length c2], .int .i64 5]) (by simp [results, Tryd.results57, go_sem, *]) rfl ?_
      exact ⟨A, c, A2, c2, rfl, hc, hrd.below (by repeat (first | exact Below.refl _ _ | apply below_alloc | apply pw_below_drewN | apply below_drew1 | (refine Below.setCell ?_ (by first | (simp; done) | (simp; omega) | omega) _) | exact hB5)), (by repeat (first | exact Below.refl _ _ | apply below_alloc | apply pw_below_drewN | apply below_drew1 | (refine Below.setCell ?_ (by first | (simp; done) | (simp; omega) | omega) _) | exact hB5))⟩
    · rw [if_neg hf]
      have e5 : ¬ (5 : Int) ≤ (bs.length : Int) := by omega
      obtain ⟨W3, hW3⟩ : ∃ W3 : World, W3 = ((w.alloc (.cells #[.slice (A) bs.length c, .slice A2 es.length c2] 25)).alloc (.cells #[.int .i64 1, .string bx, .int .i64 u, .int .i64 f, .string to_, .string tx] 40)).alloc (.cells #[.slice none 0 0, .slice none 0 0] 25) := ⟨_, rfl⟩
      have hP0 : Blk W3 w.heap.size [.slice (A) bs.length c, .slice A2 es.length c2] := by rw [hW3]; exact ((Blk.made w _ _).alloc _).alloc _
      have hX0 : Blk W3 (w.heap.size + 1) [.int .i64 1, .string bx, .int .i64 u, .int .i64 f, .string to_, .string tx] := by rw [hW3]; exact (Blk.made_at _ _ _ (by simp)).alloc _
      have hQ0 : Blk W3 (w.heap.size + 1 + 1) [.slice none 0 0, .slice none 0 0] := by rw [hW3]; exact Blk.made_at _ _ _ (by simp)
      have hB0 : Below w.heap.size w W3 := by rw [hW3]; exact (by repeat (first | exact Below.refl _ _ | apply below_alloc | apply pw_below_drewN | apply below_drew1 | (refine Below.setCell ?_ (by first | (simp; done) | (simp; omega) | omega) _) ))
      have hz0 : W3.heap.size = w.heap.size + 1 + 1 + 1 := by rw [hW3]; simp
      replace hW3 := Lib.hid hW3
      have hi1 := hinv.1
      have hi2 := hinv.2.1
      have hb30 : ∀ b ∈ bs, b.2.2.length ≤ 1048576 := fun b hb => by have := (hinv.2.2 b hb).2.2.2.1; omega
      have HSC := Lib.hid (stateCopy_calls (A) c bs A2 c2 es W3 (Kd.C_below hr hB0) (Kd.C_below hr2 hB0) (by omega) (by omega) hb30)
      have HF := fun W hr => boxOf_calls (A) c bs bx W hr
      simp only [hfi] at HF
      replace HF := Lib.hid HF
      clear hfi hf
      go_enter Tryd.func57, Tryd.ntmps57
      go_wp2_with fail
      rw [← hW3.out]
      refine HSC.out.mono ?_
      rintro e w3 ⟨vB, vS, rfl, hS3, hE3, hb3⟩
      obtain ⟨Ab, cb, rfl⟩ := Kd.S_slice hS3
      obtain ⟨As, cs, rfl⟩ := Kd.R_slice hE3
      have hz3 := hb3.size
      obtain ⟨pb, hpbe⟩ : ∃ pb, pb = w3.heap.size := ⟨_, rfl⟩
      obtain ⟨base, hbe⟩ : ∃ base, base = W3.heap.size := ⟨_, rfl⟩
      obtain ⟨w5, hW5⟩ : ∃ w5 : World, w5 = w3.alloc (.cells #[.slice Ab bs.length cb, .slice As es.length cs] 25) := ⟨_, rfl⟩
      have hP5 : Blk w5 w.heap.size [.slice (A) bs.length c, .slice A2 es.length c2] := by rw [hW5]; exact (hP0.below hb3 (by omega)).alloc _
      have hX5 : Blk w5 (w.heap.size + 1) [.int .i64 1, .string bx, .int .i64 u, .int .i64 f, .string to_, .string tx] := by rw [hW5]; exact (hX0.below hb3 (by omega)).alloc _
      have hQ5 : Blk w5 (w.heap.size + 1 + 1) [.slice none 0 0, .slice none 0 0] := by rw [hW5]; exact (hQ0.below hb3 (by omega)).alloc _
      have hk5 : Blk w5 pb [.slice Ab bs.length cb, .slice As es.length cs] := by rw [hW5, hpbe]; exact Blk.made _ _ _
      have hB5 : Below w.heap.size w w5 := by rw [hW5]; exact below_alloc' (hB0.trans (hb3.mono (by omega))) (by omega) _
      have hS5 : Kd.S kBox 77 w5 base (fun k => k ≠ pb) (.slice Ab bs.length cb) bs := by rw [hW5, hbe, hpbe]; exact Kd.S_mono (Kd.S_below (Kd.S_bound hS3) (by repeat (first | exact Below.refl _ _ | apply below_alloc | apply pw_below_drewN | apply below_drew1 | (refine Below.setCell ?_ (by first | (simp; done) | (simp; omega) | omega) _) ))) (fun k hk => by have := hk.2.2.1; show k ≠ _; omega)
      have hE5 : Kd.R kAEntry 40 w5 base (fun k => k ≠ pb) (.slice As es.length cs) es := by rw [hW5, hbe, hpbe]; exact Kd.R_mono (Kd.R_below (Kd.R_bound hE3) (by repeat (first | exact Below.refl _ _ | apply below_alloc | apply pw_below_drewN | apply below_drew1 | (refine Below.setCell ?_ (by first | (simp; done) | (simp; omega) | omega) _) ))) (fun k hk => by have := hk.2.2.1; show k ≠ _; omega)
      have hp : base ≤ pb := by omega
      have hbw : w.heap.size + 1 + 1 < base := by omega
      have hC5 := Kd.C_below hr hB5
      have hz5k := hk5.lt
      have hz5p := hP5.lt
      have hz5x := hX5.lt
      have hz5q := hQ5.lt
      have p0 := (hP0.below hb3 (by omega)).at 0 _ rfl
      have x1 := (hX0.below hb3 (by omega)).at 1 _ rfl
      have hlt1 : w.heap.size < w3.heap.size := by omega
      have hlt2 : w.heap.size + 1 < w3.heap.size := by omega
      replace hW5 := Lib.hid hW5
      replace hpbe := Lib.hid hpbe
      clear hP0 hX0 hQ0 hB0 hb3 hS3 hE3 hbe hz0 hz3 hW3 HSC
      go_wp2_with fail
      rw [← hW5.out, ← hpbe.out]
      clear p0 x1 hlt1 hlt2
      have p0 := hP5.at 0 _ rfl
      have p1 := hP5.at 1 _ rfl
      have x0 := hX5.at 0 _ rfl
      have x1 := hX5.at 1 _ rfl
      have x2 := hX5.at 2 _ rfl
      have x3 := hX5.at 3 _ rfl
      have x4 := hX5.at 4 _ rfl
      have x5 := hX5.at 5 _ rfl
      have k0 := hk5.at 0 _ rfl
      have k1 := hk5.at 1 _ rfl
      refine (HF.out _ hC5).mono ?_
      rintro e w' ⟨rfl, rfl⟩
      go_wp2_with (at_builtin; refine box_list base rfl _ _ rfl (.slice Ab bs.length cb) bs bx 1 (fun k => k ≠ pb) (by first | rfl | (simp [Act.eval]; done)) (by first | rfl | (simp [Act.eval]; done)) (fun k hk => (by omega)) hS5 (by omega) (by omega) ?_)
      intro v1 w6 hS6 hb6 hg6
      obtain ⟨A6, c6, h6⟩ := Kd.S_slice hS6
      rw [List.length_append] at h6
      subst h6
      have hpo : some pb ≠ (Value.slice Ab bs.length cb).ownBlock := fun he => (Kd.S_R hS5).1 pb he.symm rfl
      have hk6 := hk5.grown hg6 hpo
      have hE6 := Kd.R_over' hE5 (Kd.S_typed hS5) (by decide) hg6
      have hQ6 := hQ5.below hb6 (by omega)
      have hB6 := hB5.trans (hb6.mono (by omega))
      have hz6 := hb6.size
      have g1 := hk6.at 0 _ rfl
      have g2 := hk6.free 0 _ rfl
      have hk7 := hk6.set 0 (.slice A6 (bs.length + 1) c6) (by simp)
      have hS7 := Kd.S_far (p := ⟨pb, 0, none⟩) hS6 (fun k hk => hk) (.slice A6 (bs.length + 1) c6)
      have hR7 := Kd.R_far (p := ⟨pb, 0, none⟩) hE6 (fun k hk => hk) (.slice A6 (bs.length + 1) c6)
      have hQ7 := hQ6.other (c := pb) (j := 0) (by omega) (.slice A6 (bs.length + 1) c6)
      have hlz : w.heap.size + 1 + 1 < w6.heap.size := by omega
      have r0 := hk7.at 1 _ rfl
      obtain ⟨hn1, hn2, hn3, hCo⟩ := own_out (Z := Z) hS7 hR7 (fun k hk => by have := hZ k hk; omega)
      have q0 := (hQ7).at 0 _ rfl
      have q1 := (hQ7).at 1 _ rfl
      have q2 := (hQ7).free 0 _ rfl
      have q3 := (hQ7).free 1 _ rfl
      replace hn1 := Lib.hid hn1
      replace hn3 := Lib.hid hn3
      go_wp2_with fail
      refine bodyPost_ret (v := .tuple #[.agg #[.slice (A6) (bs.length + 1) c6, .slice (As) (es.length) cs], .int .i64 0]) (by simp [results, Tryd.results57, go_sem, *]) rfl ?_
      exact ⟨A6, c6, As, cs, by simp, by first | exact hn2 | (rw [← hn1.out]; exact hn2) | (simp; omega), hCo _ (by omega) _ _, (by repeat (first | exact Below.refl _ _ | apply below_alloc | apply pw_below_drewN | apply below_drew1 | (refine Below.setCell ?_ (by first | (simp; done) | (simp; omega) | omega) _) | exact hB6))⟩
set_option maxHeartbeats 2000000 in
set_option maxRecDepth 100000 in
theorem entered_none (Z : Nat → Prop) (k : Int) (bx : ByteArray) (u f : Int) (to_ tx : ByteArray) (A : Option Addr) (c : Nat) (bs : List ABox) (A2 : Option Addr) (c2 : Nat) (es : List AEntry) (w : World) (hrd : Rd Z w A bs A2 es) (hZ : ∀ k, Z k → k < w.heap.size) (hc : bs.length ≤ c) (hinv : InvS bs es) (hk6 : ¬ k = 6) (hk1 : ¬ k = 1) (hf : findG bx bs 0 < 0) :
    Calls Tryd.prog 57 #[.agg #[.slice A bs.length c, .slice A2 es.length c2], .agg #[.int .i64 k, .string bx, .int .i64 u, .int .i64 f, .string to_, .string tx]] w (PostSt Z w (entV bs es ⟨k, bx, u, f, to_, tx⟩)) := by
  obtain ⟨hr, hr2⟩ := hrd.now
  rw [entV_none (x := ⟨k, bx, u, f, to_, tx⟩) hk6 hk1 hf]
  have b6 : (k == 6) = false := by rw [beq_eq_false_iff_ne]; exact hk6
  have b1 : (k == 1) = false := by rw [beq_eq_false_iff_ne]; exact hk1
  obtain ⟨fi, hfi⟩ : ∃ fi, findG bx bs 0 = fi := ⟨_, rfl⟩
  rw [hfi] at hf
  clear hk6 hk1
  obtain ⟨W3, hW3⟩ : ∃ W3 : World, W3 = ((w.alloc (.cells #[.slice (A) bs.length c, .slice A2 es.length c2] 25)).alloc (.cells #[.int .i64 k, .string bx, .int .i64 u, .int .i64 f, .string to_, .string tx] 40)).alloc (.cells #[.slice none 0 0, .slice none 0 0] 25) := ⟨_, rfl⟩
  have hP0 : Blk W3 w.heap.size [.slice (A) bs.length c, .slice A2 es.length c2] := by rw [hW3]; exact ((Blk.made w _ _).alloc _).alloc _
  have hX0 : Blk W3 (w.heap.size + 1) [.int .i64 k, .string bx, .int .i64 u, .int .i64 f, .string to_, .string tx] := by rw [hW3]; exact (Blk.made_at _ _ _ (by simp)).alloc _
  have hQ0 : Blk W3 (w.heap.size + 1 + 1) [.slice none 0 0, .slice none 0 0] := by rw [hW3]; exact Blk.made_at _ _ _ (by simp)
  have hB0 : Below w.heap.size w W3 := by rw [hW3]; exact (by repeat (first | exact Below.refl _ _ | apply below_alloc | apply pw_below_drewN | apply below_drew1 | (refine Below.setCell ?_ (by first | (simp; done) | (simp; omega) | omega) _) ))
  have hz0 : W3.heap.size = w.heap.size + 1 + 1 + 1 := by rw [hW3]; simp
  replace hW3 := Lib.hid hW3
  have hi1 := hinv.1
  have hi2 := hinv.2.1
  have hb30 : ∀ b ∈ bs, b.2.2.length ≤ 1048576 := fun b hb => by have := (hinv.2.2 b hb).2.2.2.1; omega
  have HSC := Lib.hid (stateCopy_calls (A) c bs A2 c2 es W3 (Kd.C_below hr hB0) (Kd.C_below hr2 hB0) (by omega) (by omega) hb30)
  have HF := fun W hr => boxOf_calls (A) c bs bx W hr
  simp only [hfi] at HF
  replace HF := Lib.hid HF
  clear hfi
  go_enter Tryd.func57, Tryd.ntmps57
  go_wp2_with fail
  rw [← hW3.out]
  refine HSC.out.mono ?_
  rintro e w3 ⟨vB, vS, rfl, hS3, hE3, hb3⟩
  obtain ⟨Ab, cb, rfl⟩ := Kd.S_slice hS3
  obtain ⟨As, cs, rfl⟩ := Kd.R_slice hE3
  have hz3 := hb3.size
  obtain ⟨pb, hpbe⟩ : ∃ pb, pb = w3.heap.size := ⟨_, rfl⟩
  obtain ⟨base, hbe⟩ : ∃ base, base = W3.heap.size := ⟨_, rfl⟩
  obtain ⟨w5, hW5⟩ : ∃ w5 : World, w5 = w3.alloc (.cells #[.slice Ab bs.length cb, .slice As es.length cs] 25) := ⟨_, rfl⟩
  have hP5 : Blk w5 w.heap.size [.slice (A) bs.length c, .slice A2 es.length c2] := by rw [hW5]; exact (hP0.below hb3 (by omega)).alloc _
  have hX5 : Blk w5 (w.heap.size + 1) [.int .i64 k, .string bx, .int .i64 u, .int .i64 f, .string to_, .string tx] := by rw [hW5]; exact (hX0.below hb3 (by omega)).alloc _
  have hQ5 : Blk w5 (w.heap.size + 1 + 1) [.slice none 0 0, .slice none 0 0] := by rw [hW5]; exact (hQ0.below hb3 (by omega)).alloc _
  have hk5 : Blk w5 pb [.slice Ab bs.length cb, .slice As es.length cs] := by rw [hW5, hpbe]; exact Blk.made _ _ _
  have hB5 : Below w.heap.size w w5 := by rw [hW5]; exact below_alloc' (hB0.trans (hb3.mono (by omega))) (by omega) _
  have hS5 : Kd.S kBox 77 w5 base (fun k => k ≠ pb) (.slice Ab bs.length cb) bs := by rw [hW5, hbe, hpbe]; exact Kd.S_mono (Kd.S_below (Kd.S_bound hS3) (by repeat (first | exact Below.refl _ _ | apply below_alloc | apply pw_below_drewN | apply below_drew1 | (refine Below.setCell ?_ (by first | (simp; done) | (simp; omega) | omega) _) ))) (fun k hk => by have := hk.2.2.1; show k ≠ _; omega)
  have hE5 : Kd.R kAEntry 40 w5 base (fun k => k ≠ pb) (.slice As es.length cs) es := by rw [hW5, hbe, hpbe]; exact Kd.R_mono (Kd.R_below (Kd.R_bound hE3) (by repeat (first | exact Below.refl _ _ | apply below_alloc | apply pw_below_drewN | apply below_drew1 | (refine Below.setCell ?_ (by first | (simp; done) | (simp; omega) | omega) _) ))) (fun k hk => by have := hk.2.2.1; show k ≠ _; omega)
  have hp : base ≤ pb := by omega
  have hbw : w.heap.size + 1 + 1 < base := by omega
  have hC5 := Kd.C_below hr hB5
  have hz5k := hk5.lt
  have hz5p := hP5.lt
  have hz5x := hX5.lt
  have hz5q := hQ5.lt
  have p0 := (hP0.below hb3 (by omega)).at 0 _ rfl
  have x1 := (hX0.below hb3 (by omega)).at 1 _ rfl
  have hlt1 : w.heap.size < w3.heap.size := by omega
  have hlt2 : w.heap.size + 1 < w3.heap.size := by omega
  replace hW5 := Lib.hid hW5
  replace hpbe := Lib.hid hpbe
  clear hP0 hX0 hQ0 hB0 hb3 hS3 hE3 hbe hz0 hz3 hW3 HSC
  go_wp2_with fail
  rw [← hW5.out, ← hpbe.out]
  clear p0 x1 hlt1 hlt2
  have p0 := hP5.at 0 _ rfl
  have p1 := hP5.at 1 _ rfl
  have x0 := hX5.at 0 _ rfl
  have x1 := hX5.at 1 _ rfl
  have x2 := hX5.at 2 _ rfl
  have x3 := hX5.at 3 _ rfl
  have x4 := hX5.at 4 _ rfl
  have x5 := hX5.at 5 _ rfl
  have k0 := hk5.at 0 _ rfl
  have k1 := hk5.at 1 _ rfl
  refine (HF.out _ hC5).mono ?_
  rintro e w' ⟨rfl, rfl⟩
  have q0 := hQ5.at 0 _ rfl
  have q1 := hQ5.at 1 _ rfl
  have q2 := hQ5.free 0 _ rfl
  have q3 := hQ5.free 1 _ rfl
  go_wp2_with fail
  refine bodyPost_ret (v := .tuple #[.agg #[.slice (A) bs.length c, .slice A2 es.length c2], .int .i64 7]) (by simp [results, Tryd.results57, go_sem, *]) rfl ?_
  exact ⟨A, c, A2, c2, rfl, hc, hrd.below (by repeat (first | exact Below.refl _ _ | apply below_alloc | apply pw_below_drewN | apply below_drew1 | (refine Below.setCell ?_ (by first | (simp; done) | (simp; omega) | omega) _) | exact hB5)), (by repeat (first | exact Below.refl _ _ | apply below_alloc | apply pw_below_drewN | apply below_drew1 | (refine Below.setCell ?_ (by first | (simp; done) | (simp; omega) | omega) _) | exact hB5))⟩
set_option maxHeartbeats 2000000 in
set_option maxRecDepth 100000 in
theorem entered_append (Z : Nat → Prop) (i : Nat) (bx : ByteArray) (u f : Int) (to_ tx : ByteArray) (A : Option Addr) (c : Nat) (bs : List ABox) (A2 : Option Addr) (c2 : Nat) (es : List AEntry) (w : World) (hrd : Rd Z w A bs A2 es) (hZ : ∀ k, Z k → k < w.heap.size) (hc : bs.length ≤ c) (hinv : InvS bs es) (htx : tx.size ≤ 2000) (hfi : findG bx bs 0 = (i : Int)) (hi : i < bs.length) :
    Calls Tryd.prog 57 #[.agg #[.slice A bs.length c, .slice A2 es.length c2], .agg #[.int .i64 2, .string bx, .int .i64 u, .int .i64 f, .string to_, .string tx]] w (PostSt Z w (entV bs es ⟨2, bx, u, f, to_, tx⟩)) := by
  obtain ⟨hr, hr2⟩ := hrd.now
  have hm : mailV bs i ⟨2, bx, u, f, to_, tx⟩ = addV bs i f tx := if_pos rfl
  rw [entV_mail (x := ⟨2, bx, u, f, to_, tx⟩) (by show ¬ ((2 : Int) = 6); decide) (by show ¬ ((2 : Int) = 1); decide) hfi, hm]
  have HP := fun Z W h1 h2 => put_calls Z i f tx A c bs A2 c2 es W h1 h2 hc hinv hi htx
  generalize addV bs i f tx = R at *
  obtain ⟨rf, rb⟩ := R
  replace HP := Lib.hid HP
  have i0 : (0 : Int) ≤ (i : Int) := by omega
  have i1 : ¬ (i : Int) < 0 := by omega
  clear hm
  obtain ⟨W3, hW3⟩ : ∃ W3 : World, W3 = ((w.alloc (.cells #[.slice (A) bs.length c, .slice A2 es.length c2] 25)).alloc (.cells #[.int .i64 2, .string bx, .int .i64 u, .int .i64 f, .string to_, .string tx] 40)).alloc (.cells #[.slice none 0 0, .slice none 0 0] 25) := ⟨_, rfl⟩
  have hP0 : Blk W3 w.heap.size [.slice (A) bs.length c, .slice A2 es.length c2] := by rw [hW3]; exact ((Blk.made w _ _).alloc _).alloc _
  have hX0 : Blk W3 (w.heap.size + 1) [.int .i64 2, .string bx, .int .i64 u, .int .i64 f, .string to_, .string tx] := by rw [hW3]; exact (Blk.made_at _ _ _ (by simp)).alloc _
  have hQ0 : Blk W3 (w.heap.size + 1 + 1) [.slice none 0 0, .slice none 0 0] := by rw [hW3]; exact Blk.made_at _ _ _ (by simp)
  have hB0 : Below w.heap.size w W3 := by rw [hW3]; exact (by repeat (first | exact Below.refl _ _ | apply below_alloc | apply pw_below_drewN | apply below_drew1 | (refine Below.setCell ?_ (by first | (simp; done) | (simp; omega) | omega) _) ))
  have hz0 : W3.heap.size = w.heap.size + 1 + 1 + 1 := by rw [hW3]; simp
  replace hW3 := Lib.hid hW3
  have hi1 := hinv.1
  have hi2 := hinv.2.1
  have hb30 : ∀ b ∈ bs, b.2.2.length ≤ 1048576 := fun b hb => by have := (hinv.2.2 b hb).2.2.2.1; omega
  have HSC := Lib.hid (stateCopy_calls (A) c bs A2 c2 es W3 (Kd.C_below hr hB0) (Kd.C_below hr2 hB0) (by omega) (by omega) hb30)
  have HF := fun W hr => boxOf_calls (A) c bs bx W hr
  simp only [hfi] at HF
  replace HF := Lib.hid HF
  clear hfi
  go_enter Tryd.func57, Tryd.ntmps57
  go_wp2_with fail
  rw [← hW3.out]
  refine HSC.out.mono ?_
  rintro e w3 ⟨vB, vS, rfl, hS3, hE3, hb3⟩
  obtain ⟨Ab, cb, rfl⟩ := Kd.S_slice hS3
  obtain ⟨As, cs, rfl⟩ := Kd.R_slice hE3
  have hz3 := hb3.size
  obtain ⟨pb, hpbe⟩ : ∃ pb, pb = w3.heap.size := ⟨_, rfl⟩
  obtain ⟨base, hbe⟩ : ∃ base, base = W3.heap.size := ⟨_, rfl⟩
  obtain ⟨w5, hW5⟩ : ∃ w5 : World, w5 = w3.alloc (.cells #[.slice Ab bs.length cb, .slice As es.length cs] 25) := ⟨_, rfl⟩
  have hP5 : Blk w5 w.heap.size [.slice (A) bs.length c, .slice A2 es.length c2] := by rw [hW5]; exact (hP0.below hb3 (by omega)).alloc _
  have hX5 : Blk w5 (w.heap.size + 1) [.int .i64 2, .string bx, .int .i64 u, .int .i64 f, .string to_, .string tx] := by rw [hW5]; exact (hX0.below hb3 (by omega)).alloc _
  have hQ5 : Blk w5 (w.heap.size + 1 + 1) [.slice none 0 0, .slice none 0 0] := by rw [hW5]; exact (hQ0.below hb3 (by omega)).alloc _
  have hk5 : Blk w5 pb [.slice Ab bs.length cb, .slice As es.length cs] := by rw [hW5, hpbe]; exact Blk.made _ _ _
  have hB5 : Below w.heap.size w w5 := by rw [hW5]; exact below_alloc' (hB0.trans (hb3.mono (by omega))) (by omega) _
  have hS5 : Kd.S kBox 77 w5 base (fun k => k ≠ pb) (.slice Ab bs.length cb) bs := by rw [hW5, hbe, hpbe]; exact Kd.S_mono (Kd.S_below (Kd.S_bound hS3) (by repeat (first | exact Below.refl _ _ | apply below_alloc | apply pw_below_drewN | apply below_drew1 | (refine Below.setCell ?_ (by first | (simp; done) | (simp; omega) | omega) _) ))) (fun k hk => by have := hk.2.2.1; show k ≠ _; omega)
  have hE5 : Kd.R kAEntry 40 w5 base (fun k => k ≠ pb) (.slice As es.length cs) es := by rw [hW5, hbe, hpbe]; exact Kd.R_mono (Kd.R_below (Kd.R_bound hE3) (by repeat (first | exact Below.refl _ _ | apply below_alloc | apply pw_below_drewN | apply below_drew1 | (refine Below.setCell ?_ (by first | (simp; done) | (simp; omega) | omega) _) ))) (fun k hk => by have := hk.2.2.1; show k ≠ _; omega)
  have hp : base ≤ pb := by omega
  have hbw : w.heap.size + 1 + 1 < base := by omega
  have hC5 := Kd.C_below hr hB5
  have hz5k := hk5.lt
  have hz5p := hP5.lt
  have hz5x := hX5.lt
  have hz5q := hQ5.lt
  have p0 := (hP0.below hb3 (by omega)).at 0 _ rfl
  have x1 := (hX0.below hb3 (by omega)).at 1 _ rfl
  have hlt1 : w.heap.size < w3.heap.size := by omega
  have hlt2 : w.heap.size + 1 < w3.heap.size := by omega
  replace hW5 := Lib.hid hW5
  replace hpbe := Lib.hid hpbe
  clear hP0 hX0 hQ0 hB0 hb3 hS3 hE3 hbe hz0 hz3 hW3 HSC
  go_wp2_with fail
  rw [← hW5.out, ← hpbe.out]
  clear p0 x1 hlt1 hlt2
  have p0 := hP5.at 0 _ rfl
  have p1 := hP5.at 1 _ rfl
  have x0 := hX5.at 0 _ rfl
  have x1 := hX5.at 1 _ rfl
  have x2 := hX5.at 2 _ rfl
  have x3 := hX5.at 3 _ rfl
  have x4 := hX5.at 4 _ rfl
  have x5 := hX5.at 5 _ rfl
  have k0 := hk5.at 0 _ rfl
  have k1 := hk5.at 1 _ rfl
  refine (HF.out _ hC5).mono ?_
  rintro e w' ⟨rfl, rfl⟩
  go_wp2_with fail
  have hrd5 := hrd.step (Z' := fun k => Z k ∨ k = w.heap.size + 1 + 1) (hB5).size (fun k _ h => (hB5).block k h) (fun k hk hz => hz.elim id (fun h => by omega))
  have hQl := (hQ5).lt
  refine (HP.out (fun k => Z k ∨ k = w.heap.size + 1 + 1) _ hrd5 (fun k hk => by rcases hk with hk | hk; have := hZ k hk; have := (hB5).size; omega; omega)).mono ?_
  rintro e w6 ⟨A6, c6, A7, c7, rfl, hc6, hrd6, hb6⟩
  simp only at hc6 hrd6 ⊢
  have hQ6 := (hQ5).below hb6 hQl
  have hB6 := (hB5).trans (hb6.mono (hB5).size)
  have hz6 := hb6.size
  have q0 := hQ6.at 0 _ rfl
  have q1 := hQ6.at 1 _ rfl
  have q2 := hQ6.free 0 _ rfl
  have q3 := hQ6.free 1 _ rfl
  have hql := hQ6.lt
  clear k0 k1 p0 p1 x0 x1 x2 x3 x4 x5
  go_wp2_with fail
  refine bodyPost_ret (v := .tuple #[.agg #[.slice A6 rb.length c6, .slice A7 es.length c7], .int .i64 rf]) (by simp [results, Tryd.results57, go_sem, *]) rfl ?_
  exact ⟨A6, c6, A7, c7, rfl, hc6, ((((hrd6.stored (.inr rfl) 0 _).stored (.inr rfl) 1 _)).below (by repeat (first | exact Below.refl _ _ | apply below_alloc | apply pw_below_drewN | apply below_drew1 | (refine Below.setCell ?_ (by first | (simp; done) | (simp; omega) | omega) _) ))).less (fun k hk => .inl hk), (by repeat (first | exact Below.refl _ _ | apply below_alloc | apply pw_below_drewN | apply below_drew1 | (refine Below.setCell ?_ (by first | (simp; done) | (simp; omega) | omega) _) | exact hB6))⟩
end Go.Proofs.YtijdghplfhfpaaaDoor.H

/- Boxes: the reference's entered: the loop over the mails; Expunge. -/
namespace Go.Proofs.YtijdghplfhfpaaaDoor.H
open Go.RowKit Go.Proofs.YtijdghplfhfpaaaDoorW.PrintWords Go.Proofs.YtijdghplfhfpaaaDoorW.PrintLast Go.Proofs.YtijdghplfhfpaaaDoor.U
set_option linter.unusedVariables false
set_option linter.unusedSimpArgs false
set_option maxHeartbeats 2000000 in
set_option maxRecDepth 100000 in
theorem entered_expunge (Z : Nat → Prop) (i : Nat) (bx : ByteArray) (u f : Int) (to_ tx : ByteArray) (A : Option Addr) (c : Nat) (bs : List ABox) (A2 : Option Addr) (c2 : Nat) (es : List AEntry) (w : World) (hrd : Rd Z w A bs A2 es) (hZ : ∀ k, Z k → k < w.heap.size) (hc : bs.length ≤ c) (hinv : InvS bs es) (hfi : findG bx bs 0 = (i : Int)) (hi : i < bs.length) :
    Calls Tryd.prog 57 #[.agg #[.slice A bs.length c, .slice A2 es.length c2], .agg #[.int .i64 4, .string bx, .int .i64 u, .int .i64 f, .string to_, .string tx]] w (PostSt Z w (entV bs es ⟨4, bx, u, f, to_, tx⟩)) := by
  obtain ⟨hr, hr2⟩ := hrd.now
  obtain ⟨nm, nx, l, hb⟩ : ∃ nm nx l, bs[i] = (nm, nx, l) := ⟨_, _, _, rfl⟩
  have hgd : GoodB (nm, nx, l) := by rw [← hb]; exact hinv.2.2 _ (List.getElem_mem hi)
  obtain ⟨g1, g2, g3, g4, g5⟩ := hgd
  simp only at g1 g2 g3 g4 g5
  have hfl : ∀ m ∈ l, 0 ≤ m.flags ∧ m.flags ≤ 31 := fun m hm => by obtain ⟨_, _, a, b, _⟩ := mails_mem _ _ g5 m hm; exact ⟨a, b⟩
  have i0 : (0 : Int) ≤ (i : Int) := by omega
  have i1 : ¬ (i : Int) < 0 := by omega
  have i2 : (i : Int) < (bs.length : Int) := by omega
  obtain ⟨ad, Ae, ce, e1, b0, b1, b2, hC⟩ := box_at hr i hi
  subst e1
  rw [add1] at b1
  rw [add2] at b2
  rw [hb] at b0 b1 b2 hC
  simp only at b0 b1 b2 hC
  have hm : mailV bs i ⟨4, bx, u, f, to_, tx⟩ = (0, bs.set i (nm, nx, l.filter keepM)) := by
    rw [← putMails_of hi hb, mailV, if_neg (by show ¬ ((4 : Int) = 2); decide), if_pos rfl, mailsAt_of hi hb]
  rw [entV_mail (x := ⟨4, bx, u, f, to_, tx⟩) (by show ¬ ((4 : Int) = 6); decide) (by show ¬ ((4 : Int) = 1); decide) hfi, hm]
  clear hm
  obtain ⟨W3, hW3⟩ : ∃ W3 : World, W3 = ((w.alloc (.cells #[.slice (some ad) bs.length c, .slice A2 es.length c2] 25)).alloc (.cells #[.int .i64 4, .string bx, .int .i64 u, .int .i64 f, .string to_, .string tx] 40)).alloc (.cells #[.slice none 0 0, .slice none 0 0] 25) := ⟨_, rfl⟩
  have hP0 : Blk W3 w.heap.size [.slice (some ad) bs.length c, .slice A2 es.length c2] := by rw [hW3]; exact ((Blk.made w _ _).alloc _).alloc _
  have hX0 : Blk W3 (w.heap.size + 1) [.int .i64 4, .string bx, .int .i64 u, .int .i64 f, .string to_, .string tx] := by rw [hW3]; exact (Blk.made_at _ _ _ (by simp)).alloc _
  have hQ0 : Blk W3 (w.heap.size + 1 + 1) [.slice none 0 0, .slice none 0 0] := by rw [hW3]; exact Blk.made_at _ _ _ (by simp)
  have hB0 : Below w.heap.size w W3 := by rw [hW3]; exact (by repeat (first | exact Below.refl _ _ | apply below_alloc | apply pw_below_drewN | apply below_drew1 | (refine Below.setCell ?_ (by first | (simp; done) | (simp; omega) | omega) _) ))
  have hz0 : W3.heap.size = w.heap.size + 1 + 1 + 1 := by rw [hW3]; simp
  replace hW3 := Lib.hid hW3
  have hi1 := hinv.1
  have hi2 := hinv.2.1
  have hb30 : ∀ b ∈ bs, b.2.2.length ≤ 1048576 := fun b hb => by have := (hinv.2.2 b hb).2.2.2.1; omega
  have HSC := Lib.hid (stateCopy_calls (some ad) c bs A2 c2 es W3 (Kd.C_below hr hB0) (Kd.C_below hr2 hB0) (by omega) (by omega) hb30)
  have HF := fun W hr => boxOf_calls (some ad) c bs bx W hr
  simp only [hfi] at HF
  replace HF := Lib.hid HF
  clear hfi
  go_enter Tryd.func57, Tryd.ntmps57
  go_wp2_with fail
  rw [← hW3.out]
  refine HSC.out.mono ?_
  rintro e w3 ⟨vB, vS, rfl, hS3, hE3, hb3⟩
  obtain ⟨Ab, cb, rfl⟩ := Kd.S_slice hS3
  obtain ⟨As, cs, rfl⟩ := Kd.R_slice hE3
  have hz3 := hb3.size
  obtain ⟨pb, hpbe⟩ : ∃ pb, pb = w3.heap.size := ⟨_, rfl⟩
  obtain ⟨base, hbe⟩ : ∃ base, base = W3.heap.size := ⟨_, rfl⟩
  obtain ⟨w5, hW5⟩ : ∃ w5 : World, w5 = w3.alloc (.cells #[.slice Ab bs.length cb, .slice As es.length cs] 25) := ⟨_, rfl⟩
  have hP5 : Blk w5 w.heap.size [.slice (some ad) bs.length c, .slice A2 es.length c2] := by rw [hW5]; exact (hP0.below hb3 (by omega)).alloc _
  have hX5 : Blk w5 (w.heap.size + 1) [.int .i64 4, .string bx, .int .i64 u, .int .i64 f, .string to_, .string tx] := by rw [hW5]; exact (hX0.below hb3 (by omega)).alloc _
  have hQ5 : Blk w5 (w.heap.size + 1 + 1) [.slice none 0 0, .slice none 0 0] := by rw [hW5]; exact (hQ0.below hb3 (by omega)).alloc _
  have hk5 : Blk w5 pb [.slice Ab bs.length cb, .slice As es.length cs] := by rw [hW5, hpbe]; exact Blk.made _ _ _
  have hB5 : Below w.heap.size w w5 := by rw [hW5]; exact below_alloc' (hB0.trans (hb3.mono (by omega))) (by omega) _
  have hS5 : Kd.S kBox 77 w5 base (fun k => k ≠ pb) (.slice Ab bs.length cb) bs := by rw [hW5, hbe, hpbe]; exact Kd.S_mono (Kd.S_below (Kd.S_bound hS3) (by repeat (first | exact Below.refl _ _ | apply below_alloc | apply pw_below_drewN | apply below_drew1 | (refine Below.setCell ?_ (by first | (simp; done) | (simp; omega) | omega) _) ))) (fun k hk => by have := hk.2.2.1; show k ≠ _; omega)
  have hE5 : Kd.R kAEntry 40 w5 base (fun k => k ≠ pb) (.slice As es.length cs) es := by rw [hW5, hbe, hpbe]; exact Kd.R_mono (Kd.R_below (Kd.R_bound hE3) (by repeat (first | exact Below.refl _ _ | apply below_alloc | apply pw_below_drewN | apply below_drew1 | (refine Below.setCell ?_ (by first | (simp; done) | (simp; omega) | omega) _) ))) (fun k hk => by have := hk.2.2.1; show k ≠ _; omega)
  have hp : base ≤ pb := by omega
  have hbw : w.heap.size + 1 + 1 < base := by omega
  have hC5 := Kd.C_below hr hB5
  have hz5k := hk5.lt
  have hz5p := hP5.lt
  have hz5x := hX5.lt
  have hz5q := hQ5.lt
  have p0 := (hP0.below hb3 (by omega)).at 0 _ rfl
  have x1 := (hX0.below hb3 (by omega)).at 1 _ rfl
  have hlt1 : w.heap.size < w3.heap.size := by omega
  have hlt2 : w.heap.size + 1 < w3.heap.size := by omega
  replace hW5 := Lib.hid hW5
  replace hpbe := Lib.hid hpbe
  clear hP0 hX0 hQ0 hB0 hb3 hS3 hE3 hbe hz0 hz3 hW3 HSC
  go_wp2_with fail
  rw [← hW5.out, ← hpbe.out]
  clear p0 x1 hlt1 hlt2
  have p0 := hP5.at 0 _ rfl
  have p1 := hP5.at 1 _ rfl
  have x0 := hX5.at 0 _ rfl
  have x1 := hX5.at 1 _ rfl
  have x2 := hX5.at 2 _ rfl
  have x3 := hX5.at 3 _ rfl
  have x4 := hX5.at 4 _ rfl
  have x5 := hX5.at 5 _ rfl
  have k0 := hk5.at 0 _ rfl
  have k1 := hk5.at 1 _ rfl
  refine (HF.out _ hC5).mono ?_
  rintro e w' ⟨rfl, rfl⟩
  have hadw : (ad.add (i * 3)).block < w.heap.size := lt_of_cell' b0
  have hzw : w.heap.size ≤ w5.heap.size := hB5.size
  have hCl : Kd.C kAMail w5 Ae l.length l := Kd.C_below hC hB5
  have b5 := (hB5.cell (p := ⟨(ad.add (i * 3)).block, (ad.add (i * 3)).off + 2, none⟩) hadw).trans b2
  have hl63 := hC.2.1
  clear b0 b1 k0 k1
  go_wp2_with fail
  go_loopw [10, 11, 12] (fun vK av iv wr => ∃ k : Nat, k ≤ l.length ∧ iv = .int .i64 k ∧ av = .int .i64 (findU u (l.take k) 0) ∧ Kd.R kAMail 84 wr w5.heap.size (fun _ => True) vK ((l.take k).filter keepM) ∧ Below w5.heap.size w5 wr) (fun _ _ iv _ => l.length - (intOf iv).toNat)
  case atStart => exact ⟨0, Nat.zero_le _, rfl, rfl, Kd.R_nil _ _ _ _ _, Below.refl _ _⟩
  case round =>
    obtain ⟨k, hk, rfl, rfl, hK, hBk⟩ := hrel
    obtain ⟨vK, hvK⟩ : ∃ vK, vK = u10 := ⟨_, rfl⟩
    rw [← hvK] at hK ⊢
    clear hvK
    have p0k := (hBk.cell (p := ⟨w.heap.size, 0, none⟩) hz5p).trans p0
    have x0k := (hBk.cell (p := ⟨w.heap.size + 1, 0, none⟩) hz5x).trans x0
    have x2k := (hBk.cell (p := ⟨w.heap.size + 1, 2, none⟩) hz5x).trans x2
    have b2k := (hBk.cell (p := ⟨(ad.add (i * 3)).block, (ad.add (i * 3)).off + 2, none⟩) (by show (ad.add (i * 3)).block < w5.heap.size; omega)).trans b5
    have hzk := hBk.size
    have hpk : w.heap.size < wr.heap.size := by omega
    have hxk : w.heap.size + 1 < wr.heap.size := by omega
    have hak : (ad.add (i * 3)).block < wr.heap.size := by omega
    by_cases hlt : k < l.length
    · obtain ⟨ad2, e2, hx0, hxj⟩ := flat_at (Kd.C_below hCl hBk) k hlt
      subst e2
      have m0 := hx0 _ rfl; have m1 := hxj 1 _ (by decide) rfl; have m2 := hxj 2 _ (by decide) rfl
      clear hx0 hxj
      have hts := Lib.hid (findU_step (u := u) hlt g5)
      have htf := Lib.hid (filter_step keepM hlt)
      have hfx := hfl _ (List.getElem_mem hlt)
      have hlk : ((l.take k).filter keepM).length ≤ k := Nat.le_trans (List.length_filter_le _ _) (List.length_take_le _ _)
      have k0 : (0 : Int) ≤ (k : Int) := by omega
      have k1 : (k : Int) < (l.length : Int) := by omega
      have hkeep : keepM l[k] = decide (l[k].flags / 8 % 2 = 0) := rfl
      generalize l[k] = x at *
      generalize findU u (l.take k) 0 = fu at *
      obtain ⟨A5, c5, rfl⟩ := Kd.R_slice hK
      generalize hkl : (l.take k).filter keepM = kl at *
      have d1 : Int.tdiv x.flags 8 = x.flags / 8 := Int.tdiv_eq_ediv_of_nonneg hfx.1
      have hT := Blk.made wr #[.int .i64 x.uid, .int .i64 x.flags, .string x.text] 84
      have hKa := Kd.R_below hK (show Below wr.heap.size wr (wr.alloc (.cells #[.int .i64 x.uid, .int .i64 x.flags, .string x.text] 84)) from (by repeat (first | exact Below.refl _ _ | apply below_alloc | apply pw_below_drewN | apply below_drew1 | (refine Below.setCell ?_ (by first | (simp; done) | (simp; omega) | omega) _) )))
      have hno : some wr.heap.size ≠ (Value.slice A5 kl.length c5).ownBlock := fun he => by have := Kd.R_lt hK _ he.symm; omega
      by_cases hu : x.uid = u
      · have hub : (x.uid == u) = true := by simp [hu]
        have hfu : findU u (l.take (k + 1)) 0 = (k : Int) := by rw [hts.out, if_pos hu]
        replace hfu := Lib.hid hfu
        clear hu hts
        by_cases hkp : x.flags / 8 % 2 = 0
        · have hkk : (l.take (k + 1)).filter keepM = kl ++ [x] := by rw [htf.out, if_pos (by rw [hkeep]; exact decide_eq_true hkp)]
          replace hkk := Lib.hid hkk
          have hkb : (x.flags / 8 % 2 == 0) = true := by simp [hkp]
          clear hkeep htf hkp
          go_wp2_with (at_builtin; refine snoc_list rowAMail w5.heap.size rfl _ _ rfl (.slice A5 kl.length c5) kl x [.int .i64 x.uid, .int .i64 x.flags, .string x.text] (by first | rfl | (simp [Act.eval]; done)) (by first | rfl | (simp [Act.eval]; done)) rfl hKa (by simp; omega) (by omega) ?_)
          intro v1 w6 hR6 hb6 hg6
          have hT6 := hT.grown hg6 hno
          have y0 := hT6.at 0 _ rfl
          have hz6 := hb6.size
          simp at hz6
          have x2n := (hb6.cell (p := ⟨w.heap.size + 1, 2, none⟩) hz5x).trans (cell_alloc' x2k _)
          have hB6 : Below w5.heap.size w5 w6 := Below.trans (below_alloc hBk _) hb6
          go_wp2_with fail
          go_roundw
          case rel => exact ⟨k + 1, hlt, by go_num, by rw [hfu.out], by rw [hkk.out]; exact hR6, hB6⟩
          case measure => simp [intOf]; omega
        · have hkk : (l.take (k + 1)).filter keepM = kl := by rw [htf.out, if_neg (by rw [hkeep]; simpa using hkp), List.append_nil]
          replace hkk := Lib.hid hkk
          have hkb : (x.flags / 8 % 2 == 0) = false := by simp [hkp]
          clear hkeep htf hkp
          go_wp2_with fail
          go_roundw
          case rel => exact ⟨k + 1, hlt, by go_num, by rw [hfu.out], by rw [hkk.out]; exact hKa, below_alloc hBk _⟩
          case measure => simp [intOf]; omega
      · have hub : (x.uid == u) = false := by simp [hu]
        have hfu : findU u (l.take (k + 1)) 0 = fu := by rw [hts.out, if_neg hu]
        replace hfu := Lib.hid hfu
        clear hu hts
        by_cases hkp : x.flags / 8 % 2 = 0
        · have hkk : (l.take (k + 1)).filter keepM = kl ++ [x] := by rw [htf.out, if_pos (by rw [hkeep]; exact decide_eq_true hkp)]
          replace hkk := Lib.hid hkk
          have hkb : (x.flags / 8 % 2 == 0) = true := by simp [hkp]
          clear hkeep htf hkp
          go_wp2_with (at_builtin; refine snoc_list rowAMail w5.heap.size rfl _ _ rfl (.slice A5 kl.length c5) kl x [.int .i64 x.uid, .int .i64 x.flags, .string x.text] (by first | rfl | (simp [Act.eval]; done)) (by first | rfl | (simp [Act.eval]; done)) rfl hKa (by simp; omega) (by omega) ?_)
          intro v1 w6 hR6 hb6 hg6
          have hT6 := hT.grown hg6 hno
          have y0 := hT6.at 0 _ rfl
          have hz6 := hb6.size
          simp at hz6
          have x2n := (hb6.cell (p := ⟨w.heap.size + 1, 2, none⟩) hz5x).trans (cell_alloc' x2k _)
          have hB6 : Below w5.heap.size w5 w6 := Below.trans (below_alloc hBk _) hb6
          go_wp2_with fail
          go_roundw
          case rel => exact ⟨k + 1, hlt, by go_num, by rw [hfu.out], by rw [hkk.out]; exact hR6, hB6⟩
          case measure => simp [intOf]; omega
        · have hkk : (l.take (k + 1)).filter keepM = kl := by rw [htf.out, if_neg (by rw [hkeep]; simpa using hkp), List.append_nil]
          replace hkk := Lib.hid hkk
          have hkb : (x.flags / 8 % 2 == 0) = false := by simp [hkp]
          clear hkeep htf hkp
          go_wp2_with fail
          go_roundw
          case rel => exact ⟨k + 1, hlt, by go_num, by rw [hfu.out], by rw [hkk.out]; exact hKa, below_alloc hBk _⟩
          case measure => simp [intOf]; omega
    · obtain rfl : k = l.length := by omega
      rw [List.take_length] at hK ⊢
      have k1 : ¬ (l.length : Int) < (l.length : Int) := by omega
      skip
      obtain ⟨g, cap, hAc, hgb, hgl, cells, hgc⟩ := Kd.S_form hS5 (by omega)
      injection hAc with hAc1 _ hAc2
      subst hAc1
      subst hAc2
      obtain ⟨oki, vM, y0, y1, y2, f1, f2, hR, hoki, hH⟩ := box_lend hS5 hi hb
      obtain ⟨Am, cm, rfl⟩ := Kd.R_slice hR
      have hng : g ≠ pb := fun he => (Kd.S_R hS5).1 g (by simp [Value.ownBlock]) he
      have hng2 : pb ≠ g := Ne.symm hng
      have ea : (⟨g, 0, none⟩ : Addr).add (i * 3) = ⟨g, i * 3, none⟩ := add_plain _ _
      have hgo : some g ≠ (Value.slice Am l.length cm).ownBlock := fun he => (hoki g (hR.1 g he.symm)).2 rfl
      have hpo : some pb ≠ (Value.slice Am l.length cm).ownBlock := fun he => (hoki pb (hR.1 pb he.symm)).1 rfl
      have k0k := (hBk.cell (p := ⟨pb, 0, none⟩) hz5k).trans (hk5.at 0 _ rfl)
      have k1k := (hBk.cell (p := ⟨pb, 1, none⟩) hz5k).trans (hk5.at 1 _ rfl)
      have y2k := (hBk.cell (p := ⟨g, i * 3 + 2, none⟩) hgl).trans y2
      have f2k := (hBk.frozen (p := ⟨g, i * 3 + 2, none⟩) hgl).trans f2
      have hkk := hk5.below hBk hz5k
      have hQk := hQ5.below hBk hz5q
      have hXk := hX5.below hBk hz5x
      have hEk := Kd.R_below hE5 hBk
      have hBB := hB5.trans (hBk.mono hzw)
      have hH1 := Kd.H_below (Kd.H_widen hH) hBk
      have hng3 : ∀ k, (oki k ∨ k ≠ pb ∧ w5.heap.size ≤ k) → k ≠ g := fun k hk => by
        rcases hk with hk | hk
        · exact (hoki k hk).2
        · omega
      have hR1 : Kd.R kAMail 84 wr base (fun k => oki k ∨ k ≠ pb ∧ w5.heap.size ≤ k) vK (l.filter keepM) := Kd.R_lower (Kd.R_mono (Kd.R_bound hK) (fun k hk => .inr ⟨by have := hk.2.1; omega, hk.2.1⟩)) (by omega)
      obtain ⟨A6, c6, rfl⟩ := Kd.R_slice hK
      have hS7 := box_back (box_hole2 (v1 := .slice A6 (l.filter keepM).length c6) hH1 hi rfl) (Kd.R_far (p := ⟨g, i * 3 + 2, none⟩) hR1 hng3 (.slice A6 (l.filter keepM).length c6))
      have hg7 : wr.heap[g]? = some (.cells cells 77 (0, 0)) := (hBk.block g hgl).trans hgc
      have hR7 := Kd.R_mono (Kd.R_far (p := ⟨g, i * 3 + 2, none⟩) (Kd.R_types hEk hg7 (by decide)) (fun k hk => hk.2) (.slice A6 (l.filter keepM).length c6)) (fun k hk => hk.1)
      have hk7 := hkk.other (c := g) (j := i * 3 + 2) hng (.slice A6 (l.filter keepM).length c6)
      have hQ7 := hQk.other (c := g) (j := i * 3 + 2) (by omega) (.slice A6 (l.filter keepM).length c6)
      generalize (l.filter keepM).length = nk at *
      have r0 := hk7.at 0 _ rfl
      have r1 := hk7.at 1 _ rfl
      have hlz := hQ7.lt
      have hgz : w.heap.size + 1 + 1 ≠ g := by omega
      obtain ⟨hn1, hn2, hn3, hCo⟩ := own_out (Z := Z) hS7 hR7 (fun k hk => by have := hZ k hk; omega)
      have q0 := (hQ7).at 0 _ rfl
      have q1 := (hQ7).at 1 _ rfl
      have q2 := (hQ7).free 0 _ rfl
      have q3 := (hQ7).free 1 _ rfl
      replace hn1 := Lib.hid hn1
      replace hn3 := Lib.hid hn3
      go_wp2_with fail
      refine bodyPost_ret (v := .tuple #[.agg #[.slice ((some ⟨g, 0, none⟩)) (bs.length) cb, .slice (As) (es.length) cs], .int .i64 0]) (by simp [results, Tryd.results57, go_sem, *]) rfl ?_
      exact ⟨(some ⟨g, 0, none⟩), cb, As, cs, by simp, by first | exact hn2 | (rw [← hn1.out]; exact hn2) | (simp; omega), hCo _ (by omega) _ _, (by repeat (first | exact Below.refl _ _ | apply below_alloc | apply pw_below_drewN | apply below_drew1 | (refine Below.setCell ?_ (by first | (simp; done) | (simp; omega) | omega) _) | exact hBB))⟩
end Go.Proofs.YtijdghplfhfpaaaDoor.H

/- Boxes: the reference's entered: Flag, Copy; the whole. -/
namespace Go.Proofs.YtijdghplfhfpaaaDoor.H
open Go.RowKit Go.Proofs.YtijdghplfhfpaaaDoorW.PrintWords Go.Proofs.YtijdghplfhfpaaaDoorW.PrintLast Go.Proofs.YtijdghplfhfpaaaDoor.U
set_option linter.unusedVariables false
set_option linter.unusedSimpArgs false
set_option maxHeartbeats 2000000 in
set_option maxRecDepth 100000 in
theorem entered_miss (Z : Nat → Prop) (i : Nat) (k : Int) (bx : ByteArray) (u f : Int) (to_ tx : ByteArray) (A : Option Addr) (c : Nat) (bs : List ABox) (A2 : Option Addr) (c2 : Nat) (es : List AEntry) (w : World) (hrd : Rd Z w A bs A2 es) (hZ : ∀ k, Z k → k < w.heap.size) (hc : bs.length ≤ c) (hinv : InvS bs es) (hk : k = 3 ∨ k = 5) (hfi : findG bx bs 0 = (i : Int)) (hi : i < bs.length) (hfk : findU u (mailsAt bs i) 0 < 0) :
    Calls Tryd.prog 57 #[.agg #[.slice A bs.length c, .slice A2 es.length c2], .agg #[.int .i64 k, .string bx, .int .i64 u, .int .i64 f, .string to_, .string tx]] w (PostSt Z w (entV bs es ⟨k, bx, u, f, to_, tx⟩)) := by
  obtain ⟨hr, hr2⟩ := hrd.now
  have b6 : (k == 6) = false := by rw [beq_eq_false_iff_ne]; omega
  have b1' : (k == 1) = false := by rw [beq_eq_false_iff_ne]; omega
  have b2' : (k == 2) = false := by rw [beq_eq_false_iff_ne]; omega
  have b4 : (k == 4) = false := by rw [beq_eq_false_iff_ne]; omega
  rw [entV_mail (x := ⟨k, bx, u, f, to_, tx⟩) (by show ¬ k = 6; omega) (by show ¬ k = 1; omega) hfi, mailV_miss (x := ⟨k, bx, u, f, to_, tx⟩) (by show ¬ k = 2; omega) (by show ¬ k = 4; omega) hfk]
  clear hk
  obtain ⟨kk, hkk⟩ : ∃ kk, kk = k := ⟨_, rfl⟩
  rw [← hkk] at b6 b1' b2' b4 ⊢
  clear hkk
  obtain ⟨nm, nx, l, hb⟩ : ∃ nm nx l, bs[i] = (nm, nx, l) := ⟨_, _, _, rfl⟩
  have hgd : GoodB (nm, nx, l) := by rw [← hb]; exact hinv.2.2 _ (List.getElem_mem hi)
  obtain ⟨g1, g2, g3, g4, g5⟩ := hgd
  simp only at g1 g2 g3 g4 g5
  have hfl : ∀ m ∈ l, 0 ≤ m.flags ∧ m.flags ≤ 31 := fun m hm => by obtain ⟨_, _, a, b, _⟩ := mails_mem _ _ g5 m hm; exact ⟨a, b⟩
  have i0 : (0 : Int) ≤ (i : Int) := by omega
  have i1 : ¬ (i : Int) < 0 := by omega
  have i2 : (i : Int) < (bs.length : Int) := by omega
  obtain ⟨ad, Ae, ce, e1, b0, b1, b2, hC⟩ := box_at hr i hi
  subst e1
  rw [add1] at b1
  rw [add2] at b2
  rw [hb] at b0 b1 b2 hC
  simp only at b0 b1 b2 hC
  rw [mailsAt_of hi hb] at hfk
  obtain ⟨fk, hfkk⟩ : ∃ fk, findU u l 0 = fk := ⟨_, rfl⟩
  rw [hfkk] at hfk
  obtain ⟨W3, hW3⟩ : ∃ W3 : World, W3 = ((w.alloc (.cells #[.slice (some ad) bs.length c, .slice A2 es.length c2] 25)).alloc (.cells #[.int .i64 kk, .string bx, .int .i64 u, .int .i64 f, .string to_, .string tx] 40)).alloc (.cells #[.slice none 0 0, .slice none 0 0] 25) := ⟨_, rfl⟩
  have hP0 : Blk W3 w.heap.size [.slice (some ad) bs.length c, .slice A2 es.length c2] := by rw [hW3]; exact ((Blk.made w _ _).alloc _).alloc _
  have hX0 : Blk W3 (w.heap.size + 1) [.int .i64 kk, .string bx, .int .i64 u, .int .i64 f, .string to_, .string tx] := by rw [hW3]; exact (Blk.made_at _ _ _ (by simp)).alloc _
  have hQ0 : Blk W3 (w.heap.size + 1 + 1) [.slice none 0 0, .slice none 0 0] := by rw [hW3]; exact Blk.made_at _ _ _ (by simp)
  have hB0 : Below w.heap.size w W3 := by rw [hW3]; exact (by repeat (first | exact Below.refl _ _ | apply below_alloc | apply pw_below_drewN | apply below_drew1 | (refine Below.setCell ?_ (by first | (simp; done) | (simp; omega) | omega) _) ))
  have hz0 : W3.heap.size = w.heap.size + 1 + 1 + 1 := by rw [hW3]; simp
  replace hW3 := Lib.hid hW3
  have hi1 := hinv.1
  have hi2 := hinv.2.1
  have hb30 : ∀ b ∈ bs, b.2.2.length ≤ 1048576 := fun b hb => by have := (hinv.2.2 b hb).2.2.2.1; omega
  have HSC := Lib.hid (stateCopy_calls (some ad) c bs A2 c2 es W3 (Kd.C_below hr hB0) (Kd.C_below hr2 hB0) (by omega) (by omega) hb30)
  have HF := fun W hr => boxOf_calls (some ad) c bs bx W hr
  simp only [hfi] at HF
  replace HF := Lib.hid HF
  clear hfi
  go_enter Tryd.func57, Tryd.ntmps57
  go_wp2_with fail
  rw [← hW3.out]
  refine HSC.out.mono ?_
  rintro e w3 ⟨vB, vS, rfl, hS3, hE3, hb3⟩
  obtain ⟨Ab, cb, rfl⟩ := Kd.S_slice hS3
  obtain ⟨As, cs, rfl⟩ := Kd.R_slice hE3
  have hz3 := hb3.size
  obtain ⟨pb, hpbe⟩ : ∃ pb, pb = w3.heap.size := ⟨_, rfl⟩
  obtain ⟨base, hbe⟩ : ∃ base, base = W3.heap.size := ⟨_, rfl⟩
  obtain ⟨w5, hW5⟩ : ∃ w5 : World, w5 = w3.alloc (.cells #[.slice Ab bs.length cb, .slice As es.length cs] 25) := ⟨_, rfl⟩
  have hP5 : Blk w5 w.heap.size [.slice (some ad) bs.length c, .slice A2 es.length c2] := by rw [hW5]; exact (hP0.below hb3 (by omega)).alloc _
  have hX5 : Blk w5 (w.heap.size + 1) [.int .i64 kk, .string bx, .int .i64 u, .int .i64 f, .string to_, .string tx] := by rw [hW5]; exact (hX0.below hb3 (by omega)).alloc _
  have hQ5 : Blk w5 (w.heap.size + 1 + 1) [.slice none 0 0, .slice none 0 0] := by rw [hW5]; exact (hQ0.below hb3 (by omega)).alloc _
  have hk5 : Blk w5 pb [.slice Ab bs.length cb, .slice As es.length cs] := by rw [hW5, hpbe]; exact Blk.made _ _ _
  have hB5 : Below w.heap.size w w5 := by rw [hW5]; exact below_alloc' (hB0.trans (hb3.mono (by omega))) (by omega) _
  have hS5 : Kd.S kBox 77 w5 base (fun k => k ≠ pb) (.slice Ab bs.length cb) bs := by rw [hW5, hbe, hpbe]; exact Kd.S_mono (Kd.S_below (Kd.S_bound hS3) (by repeat (first | exact Below.refl _ _ | apply below_alloc | apply pw_below_drewN | apply below_drew1 | (refine Below.setCell ?_ (by first | (simp; done) | (simp; omega) | omega) _) ))) (fun k hk => by have := hk.2.2.1; show k ≠ _; omega)
  have hE5 : Kd.R kAEntry 40 w5 base (fun k => k ≠ pb) (.slice As es.length cs) es := by rw [hW5, hbe, hpbe]; exact Kd.R_mono (Kd.R_below (Kd.R_bound hE3) (by repeat (first | exact Below.refl _ _ | apply below_alloc | apply pw_below_drewN | apply below_drew1 | (refine Below.setCell ?_ (by first | (simp; done) | (simp; omega) | omega) _) ))) (fun k hk => by have := hk.2.2.1; show k ≠ _; omega)
  have hp : base ≤ pb := by omega
  have hbw : w.heap.size + 1 + 1 < base := by omega
  have hC5 := Kd.C_below hr hB5
  have hz5k := hk5.lt
  have hz5p := hP5.lt
  have hz5x := hX5.lt
  have hz5q := hQ5.lt
  have p0 := (hP0.below hb3 (by omega)).at 0 _ rfl
  have x1 := (hX0.below hb3 (by omega)).at 1 _ rfl
  have hlt1 : w.heap.size < w3.heap.size := by omega
  have hlt2 : w.heap.size + 1 < w3.heap.size := by omega
  replace hW5 := Lib.hid hW5
  replace hpbe := Lib.hid hpbe
  clear hP0 hX0 hQ0 hB0 hb3 hS3 hE3 hbe hz0 hz3 hW3 HSC
  go_wp2_with fail
  rw [← hW5.out, ← hpbe.out]
  clear p0 x1 hlt1 hlt2
  have p0 := hP5.at 0 _ rfl
  have p1 := hP5.at 1 _ rfl
  have x0 := hX5.at 0 _ rfl
  have x1 := hX5.at 1 _ rfl
  have x2 := hX5.at 2 _ rfl
  have x3 := hX5.at 3 _ rfl
  have x4 := hX5.at 4 _ rfl
  have x5 := hX5.at 5 _ rfl
  have k0 := hk5.at 0 _ rfl
  have k1 := hk5.at 1 _ rfl
  refine (HF.out _ hC5).mono ?_
  rintro e w' ⟨rfl, rfl⟩
  have hadw : (ad.add (i * 3)).block < w.heap.size := lt_of_cell' b0
  have hzw : w.heap.size ≤ w5.heap.size := hB5.size
  have hCl : Kd.C kAMail w5 Ae l.length l := Kd.C_below hC hB5
  have b5 := (hB5.cell (p := ⟨(ad.add (i * 3)).block, (ad.add (i * 3)).off + 2, none⟩) hadw).trans b2
  have hl63 := hC.2.1
  clear b0 b1 k0 k1
  go_wp2_with fail
  go_loopw [10, 11, 12] (fun vK av iv wr => ∃ k : Nat, k ≤ l.length ∧ iv = .int .i64 k ∧ av = .int .i64 (findU u (l.take k) 0) ∧ Kd.R kAMail 84 wr w5.heap.size (fun _ => True) vK ((l.take k).filter keepM) ∧ Below w5.heap.size w5 wr) (fun _ _ iv _ => l.length - (intOf iv).toNat)
  case atStart => exact ⟨0, Nat.zero_le _, rfl, rfl, Kd.R_nil _ _ _ _ _, Below.refl _ _⟩
  case round =>
    obtain ⟨k, hk, rfl, rfl, hK, hBk⟩ := hrel
    obtain ⟨vK, hvK⟩ : ∃ vK, vK = u10 := ⟨_, rfl⟩
    rw [← hvK] at hK ⊢
    clear hvK
    have p0k := (hBk.cell (p := ⟨w.heap.size, 0, none⟩) hz5p).trans p0
    have x0k := (hBk.cell (p := ⟨w.heap.size + 1, 0, none⟩) hz5x).trans x0
    have x2k := (hBk.cell (p := ⟨w.heap.size + 1, 2, none⟩) hz5x).trans x2
    have b2k := (hBk.cell (p := ⟨(ad.add (i * 3)).block, (ad.add (i * 3)).off + 2, none⟩) (by show (ad.add (i * 3)).block < w5.heap.size; omega)).trans b5
    have hzk := hBk.size
    have hpk : w.heap.size < wr.heap.size := by omega
    have hxk : w.heap.size + 1 < wr.heap.size := by omega
    have hak : (ad.add (i * 3)).block < wr.heap.size := by omega
    by_cases hlt : k < l.length
    · obtain ⟨ad2, e2, hx0, hxj⟩ := flat_at (Kd.C_below hCl hBk) k hlt
      subst e2
      have m0 := hx0 _ rfl; have m1 := hxj 1 _ (by decide) rfl; have m2 := hxj 2 _ (by decide) rfl
      clear hx0 hxj
      have hts := Lib.hid (findU_step (u := u) hlt g5)
      have htf := Lib.hid (filter_step keepM hlt)
      have hfx := hfl _ (List.getElem_mem hlt)
      have hlk : ((l.take k).filter keepM).length ≤ k := Nat.le_trans (List.length_filter_le _ _) (List.length_take_le _ _)
      have k0 : (0 : Int) ≤ (k : Int) := by omega
      have k1 : (k : Int) < (l.length : Int) := by omega
      have hkeep : keepM l[k] = decide (l[k].flags / 8 % 2 = 0) := rfl
      generalize l[k] = x at *
      generalize findU u (l.take k) 0 = fu at *
      obtain ⟨A5, c5, rfl⟩ := Kd.R_slice hK
      generalize hkl : (l.take k).filter keepM = kl at *
      have d1 : Int.tdiv x.flags 8 = x.flags / 8 := Int.tdiv_eq_ediv_of_nonneg hfx.1
      have hT := Blk.made wr #[.int .i64 x.uid, .int .i64 x.flags, .string x.text] 84
      have hKa := Kd.R_below hK (show Below wr.heap.size wr (wr.alloc (.cells #[.int .i64 x.uid, .int .i64 x.flags, .string x.text] 84)) from (by repeat (first | exact Below.refl _ _ | apply below_alloc | apply pw_below_drewN | apply below_drew1 | (refine Below.setCell ?_ (by first | (simp; done) | (simp; omega) | omega) _) )))
      have hno : some wr.heap.size ≠ (Value.slice A5 kl.length c5).ownBlock := fun he => by have := Kd.R_lt hK _ he.symm; omega
      by_cases hu : x.uid = u
      · have hub : (x.uid == u) = true := by simp [hu]
        have hfu : findU u (l.take (k + 1)) 0 = (k : Int) := by rw [hts.out, if_pos hu]
        replace hfu := Lib.hid hfu
        clear hu hts
        by_cases hkp : x.flags / 8 % 2 = 0
        · have hkk : (l.take (k + 1)).filter keepM = kl ++ [x] := by rw [htf.out, if_pos (by rw [hkeep]; exact decide_eq_true hkp)]
          replace hkk := Lib.hid hkk
          have hkb : (x.flags / 8 % 2 == 0) = true := by simp [hkp]
          clear hkeep htf hkp
          go_wp2_with (at_builtin; refine snoc_list rowAMail w5.heap.size rfl _ _ rfl (.slice A5 kl.length c5) kl x [.int .i64 x.uid, .int .i64 x.flags, .string x.text] (by first | rfl | (simp [Act.eval]; done)) (by first | rfl | (simp [Act.eval]; done)) rfl hKa (by simp; omega) (by omega) ?_)
          intro v1 w6 hR6 hb6 hg6
          have hT6 := hT.grown hg6 hno
          have y0 := hT6.at 0 _ rfl
          have hz6 := hb6.size
          simp at hz6
          have x2n := (hb6.cell (p := ⟨w.heap.size + 1, 2, none⟩) hz5x).trans (cell_alloc' x2k _)
          have hB6 : Below w5.heap.size w5 w6 := Below.trans (below_alloc hBk _) hb6
          go_wp2_with fail
          go_roundw
          case rel => exact ⟨k + 1, hlt, by go_num, by rw [hfu.out], by rw [hkk.out]; exact hR6, hB6⟩
          case measure => simp [intOf]; omega
        · have hkk : (l.take (k + 1)).filter keepM = kl := by rw [htf.out, if_neg (by rw [hkeep]; simpa using hkp), List.append_nil]
          replace hkk := Lib.hid hkk
          have hkb : (x.flags / 8 % 2 == 0) = false := by simp [hkp]
          clear hkeep htf hkp
          go_wp2_with fail
          go_roundw
          case rel => exact ⟨k + 1, hlt, by go_num, by rw [hfu.out], by rw [hkk.out]; exact hKa, below_alloc hBk _⟩
          case measure => simp [intOf]; omega
      · have hub : (x.uid == u) = false := by simp [hu]
        have hfu : findU u (l.take (k + 1)) 0 = fu := by rw [hts.out, if_neg hu]
        replace hfu := Lib.hid hfu
        clear hu hts
        by_cases hkp : x.flags / 8 % 2 = 0
        · have hkk : (l.take (k + 1)).filter keepM = kl ++ [x] := by rw [htf.out, if_pos (by rw [hkeep]; exact decide_eq_true hkp)]
          replace hkk := Lib.hid hkk
          have hkb : (x.flags / 8 % 2 == 0) = true := by simp [hkp]
          clear hkeep htf hkp
          go_wp2_with (at_builtin; refine snoc_list rowAMail w5.heap.size rfl _ _ rfl (.slice A5 kl.length c5) kl x [.int .i64 x.uid, .int .i64 x.flags, .string x.text] (by first | rfl | (simp [Act.eval]; done)) (by first | rfl | (simp [Act.eval]; done)) rfl hKa (by simp; omega) (by omega) ?_)
          intro v1 w6 hR6 hb6 hg6
          have hT6 := hT.grown hg6 hno
          have y0 := hT6.at 0 _ rfl
          have hz6 := hb6.size
          simp at hz6
          have x2n := (hb6.cell (p := ⟨w.heap.size + 1, 2, none⟩) hz5x).trans (cell_alloc' x2k _)
          have hB6 : Below w5.heap.size w5 w6 := Below.trans (below_alloc hBk _) hb6
          go_wp2_with fail
          go_roundw
          case rel => exact ⟨k + 1, hlt, by go_num, by rw [hfu.out], by rw [hkk.out]; exact hR6, hB6⟩
          case measure => simp [intOf]; omega
        · have hkk : (l.take (k + 1)).filter keepM = kl := by rw [htf.out, if_neg (by rw [hkeep]; simpa using hkp), List.append_nil]
          replace hkk := Lib.hid hkk
          have hkb : (x.flags / 8 % 2 == 0) = false := by simp [hkp]
          clear hkeep htf hkp
          go_wp2_with fail
          go_roundw
          case rel => exact ⟨k + 1, hlt, by go_num, by rw [hfu.out], by rw [hkk.out]; exact hKa, below_alloc hBk _⟩
          case measure => simp [intOf]; omega
    · obtain rfl : k = l.length := by omega
      rw [List.take_length] at hK ⊢
      have k1 : ¬ (l.length : Int) < (l.length : Int) := by omega
      skip
      have hQk := hQ5.below hBk hz5q
      have hBB := hB5.trans (hBk.mono hzw)
      have p1k := (hBk.cell (p := ⟨w.heap.size, 1, none⟩) hz5p).trans p1
      have hlz := hQk.lt
      replace hfkk := Lib.hid hfkk
      rw [hfkk.out]
      have q0 := hQk.at 0 _ rfl
      have q1 := hQk.at 1 _ rfl
      have q2 := hQk.free 0 _ rfl
      have q3 := hQk.free 1 _ rfl
      go_wp2_with fail
      refine bodyPost_ret (v := .tuple #[.agg #[.slice (some ad) bs.length c, .slice A2 es.length c2], .int .i64 7]) (by simp [results, Tryd.results57, go_sem, *]) rfl ?_
      exact ⟨some ad, c, A2, c2, rfl, hc, hrd.below (by repeat (first | exact Below.refl _ _ | apply below_alloc | apply pw_below_drewN | apply below_drew1 | (refine Below.setCell ?_ (by first | (simp; done) | (simp; omega) | omega) _) | exact hBB)), (by repeat (first | exact Below.refl _ _ | apply below_alloc | apply pw_below_drewN | apply below_drew1 | (refine Below.setCell ?_ (by first | (simp; done) | (simp; omega) | omega) _) | exact hBB))⟩
end Go.Proofs.YtijdghplfhfpaaaDoor.H
