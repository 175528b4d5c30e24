/- The claim BoxAppliesUptoCardSaid, part 4 of 6. -/
import Derived.Test.YtijdghplfhfpaaaDoorBoxAppliesK3
import Derived.Laws.IdiomCopy
import Derived.Test.YtijdghplfhfpaaaDoorBoxAppliesK1
/- Boxes: mails searched and dropped. -/
namespace Go.Proofs.YtijdghplfhfpaaaDoor.H
open Go.RowKit Go.Proofs.YtijdghplfhfpaaaDoorW.PrintWords Go.Proofs.YtijdghplfhfpaaaDoorW.PrintLast Go.Proofs.YtijdghplfhfpaaaDoor.U
set_option linter.unusedVariables false
set_option linter.unusedSimpArgs false
/-- Where the first mail stands that p takes; -1: there is none. -/
def findP (p : AMail → Bool) : List AMail → Int → Int
  | [], _ => -1
  | m :: l, k => if p m = true then k else findP p l (k + 1)
theorem findP_yes {p : AMail → Bool} {l : List AMail} {k : Nat} (h : k < l.length) (h2 : p l[k] = true) (i : Int) : findP p (l.drop k) i = i := by
  rw [List.drop_eq_getElem_cons h, findP, if_pos h2]
theorem findP_no {p : AMail → Bool} {l : List AMail} {k : Nat} (h : k < l.length) (h2 : ¬ p l[k] = true) (i : Int) : findP p (l.drop k) i = findP p (l.drop (k + 1)) (i + 1) := by
  rw [List.drop_eq_getElem_cons h, findP, if_neg h2]
theorem findP_end (p : AMail → Bool) (l : List AMail) (i : Int) : findP p (l.drop l.length) i = -1 := by rw [List.drop_length]; rfl
theorem findU_P (u : Int) : ∀ (l : List AMail) (i : Int), findU u l i = findP (fun m => decide (m.uid = u)) l i
  | [], _ => rfl
  | m :: l, i => by
    rw [findU, findP, findU_P u l (i + 1)]
    by_cases h : m.uid = u
    · rw [if_pos h, if_pos (by simpa using h)]
    · rw [if_neg h, if_neg (by simpa using h)]
theorem findP_spec {p : AMail → Bool} : ∀ (l : List AMail) (i : Int), (findP p l i = -1 ∧ ∀ m ∈ l, ¬ p m = true) ∨ ∃ (k : Nat) (h : k < l.length), findP p l i = i + k ∧ p l[k] = true ∧ ∀ m ∈ l.take k, ¬ p m = true
  | [], _ => .inl ⟨rfl, fun m hm => by cases hm⟩
  | m :: l, i => by
    rw [findP]
    by_cases h : p m = true
    · rw [if_pos h]
      exact .inr ⟨0, by simp, by simp, h, fun z hz => by cases hz⟩
    · rw [if_neg h]
      rcases findP_spec (p := p) l (i + 1) with ⟨h1, h2⟩ | ⟨k, hk, h1, h2, h3⟩
      · refine .inl ⟨h1, fun z hz => ?_⟩
        rcases List.mem_cons.1 hz with rfl | hz
        · exact h
        · exact h2 z hz
      · refine .inr ⟨k + 1, by simp; omega, by rw [h1]; push_cast; omega, h2, fun z hz => ?_⟩
        rw [List.take_succ_cons] at hz
        rcases List.mem_cons.1 hz with rfl | hz
        · exact h
        · exact h3 z hz
set_option maxHeartbeats 1000000 in
set_option maxRecDepth 100000 in
theorem sameUid_calls (m : AMail) (u : Int) (pb : Nat) (w : World) (hp : w.cell? ⟨pb, 2, none⟩ = some (.int .i64 u)) (hpb : pb < w.heap.size) :
    Calls Tryd.prog 95 #[.agg #[.int .i64 m.uid, .int .i64 m.flags, .string m.text], .pointer (some ⟨pb, 0, none⟩)] w fun e w' => e = .returned (.bool (decide (m.uid = u))) ∧ Below w.heap.size w w' := by
  have hq : (m.uid == u) = decide (m.uid = u) := rfl
  generalize decide (m.uid = u) = d at *
  go_enter Tryd.func95, Tryd.ntmps95
  go_wp2_with fail
  go_ret
  exact ⟨(by first | rfl | (simp; done) | (simp [*]; done) | (rw [if_pos (by omega)]; first | rfl | (simp; done)) | (rw [if_neg (by omega)]; first | rfl | (simp; done)) | (simp; omega)), (by repeat (first | exact Below.refl _ _ | apply below_alloc | apply pw_below_drewN | apply below_drew1 | (refine Below.setCell ?_ (by first | (simp; done) | (simp; omega) | omega) _) ))⟩
theorem and8 (f : Int) (h0 : 0 ≤ f) (h1 : f ≤ 31) : (bits .and .i64 f 8 != 0) = !decide (f / 8 % 2 = 0) := by
  obtain ⟨n, rfl⟩ := Int.eq_ofNat_of_zero_le h0
  have hn : n ≤ 31 := by omega
  rcases (by omega : n = 0 ∨ n = 1 ∨ n = 2 ∨ n = 3 ∨ n = 4 ∨ n = 5 ∨ n = 6 ∨ n = 7 ∨ n = 8 ∨ n = 9 ∨ n = 10 ∨ n = 11 ∨ n = 12 ∨ n = 13 ∨ n = 14 ∨ n = 15 ∨ n = 16 ∨ n = 17 ∨ n = 18 ∨ n = 19 ∨ n = 20 ∨ n = 21 ∨ n = 22 ∨ n = 23 ∨ n = 24 ∨ n = 25 ∨ n = 26 ∨ n = 27 ∨ n = 28 ∨ n = 29 ∨ n = 30 ∨ n = 31) with h | h | h | h | h | h | h | h | h | h | h | h | h | h | h | h | h | h | h | h | h | h | h | h | h | h | h | h | h | h | h | h <;> subst h <;> first | rfl | decide +kernel
set_option maxHeartbeats 1000000 in
set_option maxRecDepth 100000 in
theorem deleted_calls (m : AMail) (w : World) (h0 : 0 ≤ m.flags) (h1 : m.flags ≤ 31) :
    Calls Tryd.prog 93 #[.agg #[.int .i64 m.uid, .int .i64 m.flags, .string m.text]] w fun e w' => e = .returned (.bool (!keepM m)) ∧ Below w.heap.size w w' := by
  have hq := and8 m.flags h0 h1
  unfold keepM
  generalize (!decide (m.flags / 8 % 2 = 0)) = d at *
  go_enter Tryd.func93, Tryd.ntmps93
  go_wp2_with fail
  go_ret
  exact ⟨(by first | rfl | (simp; done) | (simp [*]; done) | (rw [if_pos (by omega)]; first | rfl | (simp; done)) | (rw [if_neg (by omega)]; first | rfl | (simp; done)) | (simp; omega)), (by repeat (first | exact Below.refl _ _ | apply below_alloc | apply pw_below_drewN | apply below_drew1 | (refine Below.setCell ?_ (by first | (simp; done) | (simp; omega) | omega) _) ))⟩
set_option maxHeartbeats 1000000 in
set_option maxRecDepth 100000 in
theorem indexU_calls (u : Int) (pb : Nat) (A : Option Addr) (c : Nat) (l : List AMail) (p : AMail → Bool) (w : World) (hr : Kd.C kAMail w A l.length l) (hp : p = fun m => decide (m.uid = u)) (hc : w.cell? ⟨pb, 2, none⟩ = some (.int .i64 u)) (hpb : pb < w.heap.size) :
    Calls Tryd.prog 94 #[.slice A l.length c, .func (.func 95) #[] #[.pointer (some ⟨pb, 0, none⟩)]] w fun e w' => e = .returned (.int .i64 (findP p l 0)) ∧ Below w.heap.size w w' := by
  have h63 := hr.2.1
  generalize hR : findP p l 0 = R
  go_enter Tryd.func94, Tryd.ntmps94
  go_wp2_with fail
  go_loopw [8] (fun i wr => ∃ k : Nat, k ≤ l.length ∧ i = .int .i64 k ∧ findP p (l.drop k) k = R ∧ Below w.heap.size w wr) (fun i _ => l.length - (intOf i).toNat)
  case atStart => exact ⟨0, Nat.zero_le _, rfl, hR, Below.refl _ _⟩
  case round =>
    clear hR
    obtain ⟨k, hk, rfl, hR, hB⟩ := hrel
    by_cases hlt : k < l.length
    · obtain ⟨ad, e1, hx0, hxj⟩ := flat_at (Kd.C_below hr hB) k hlt
      subst e1
      have q0 := hx0 _ rfl; have q1 := hxj 1 _ (by decide) rfl; have q2 := hxj 2 _ (by decide) rfl
      clear hx0 hxj
      have i0 : (0 : Int) ≤ (k : Int) := by omega
      have i1 : (k : Int) < (l.length : Int) := by omega
      have hy := fun h => findP_yes (p := p) hlt h (k : Int)
      have hn := fun h => findP_no (p := p) hlt h (k : Int)
      rw [hR] at hy hn
      have hmem := List.getElem_mem hlt
      generalize l[k] = x at *
      have HC := (by rw [hp]; exact sameUid_calls x u pb wr ((hB.cell (p := ⟨pb, 2, none⟩) hpb).trans hc) (Nat.lt_of_lt_of_le hpb hB.size) : Calls Tryd.prog 95 #[.agg #[.int .i64 x.uid, .int .i64 x.flags, .string x.text], .pointer (some ⟨pb, 0, none⟩)] wr fun e w' => e = .returned (.bool (p x)) ∧ Below wr.heap.size wr w')
      by_cases he : p x = true
      · have := hy he
        subst this
        rw [he] at HC
        replace HC := Lib.hid HC
        clear hy hn he hR
        go_wp2_with fail
        refine HC.out.mono ?_
        rintro e w2 ⟨rfl, hb2⟩
        go_wp2_with fail
        go_ret
        exact ⟨(by first | rfl | (simp; done) | (simp [*]; done) | (rw [if_pos (by omega)]; first | rfl | (simp; done)) | (rw [if_neg (by omega)]; first | rfl | (simp; done)) | (simp; omega)), hB.trans (hb2.mono hB.size)⟩
      · have hn2 := Lib.hid (hn he)
        rw [Bool.eq_false_iff.2 he] at HC
        replace HC := Lib.hid HC
        clear hy hn he hR
        go_wp2_with fail
        refine HC.out.mono ?_
        rintro e w2 ⟨rfl, hb2⟩
        go_wp2_with fail
        go_roundw
        case rel => exact ⟨k + 1, hlt, by go_num, by rw [hn2.out]; rfl, hB.trans (hb2.mono hB.size)⟩
        case measure => simp [intOf]; omega
    · obtain rfl : k = l.length := by omega
      rw [findP_end] at hR
      subst hR
      have i1 : ¬ (l.length : Int) < (l.length : Int) := by omega
      go_wp2_with fail
      go_ret
      exact ⟨(by first | rfl | (simp; done) | (simp [*]; done) | (rw [if_pos (by omega)]; first | rfl | (simp; done)) | (rw [if_neg (by omega)]; first | rfl | (simp; done)) | (simp; omega)), hB⟩
set_option maxHeartbeats 1000000 in
set_option maxRecDepth 100000 in
theorem indexD_calls  (A : Option Addr) (c : Nat) (l : List AMail) (p : AMail → Bool) (w : World) (hr : Kd.C kAMail w A l.length l) (hp : p = fun m => !keepM m) (hf : ∀ m ∈ l, 0 ≤ m.flags ∧ m.flags ≤ 31) :
    Calls Tryd.prog 94 #[.slice A l.length c, .func (.func 93) #[] #[]] w fun e w' => e = .returned (.int .i64 (findP p l 0)) ∧ Below w.heap.size w w' := by
  have h63 := hr.2.1
  generalize hR : findP p l 0 = R
  go_enter Tryd.func94, Tryd.ntmps94
  go_wp2_with fail
  go_loopw [8] (fun i wr => ∃ k : Nat, k ≤ l.length ∧ i = .int .i64 k ∧ findP p (l.drop k) k = R ∧ Below w.heap.size w wr) (fun i _ => l.length - (intOf i).toNat)
  case atStart => exact ⟨0, Nat.zero_le _, rfl, hR, Below.refl _ _⟩
  case round =>
    clear hR
    obtain ⟨k, hk, rfl, hR, hB⟩ := hrel
    by_cases hlt : k < l.length
    · obtain ⟨ad, e1, hx0, hxj⟩ := flat_at (Kd.C_below hr hB) k hlt
      subst e1
      have q0 := hx0 _ rfl; have q1 := hxj 1 _ (by decide) rfl; have q2 := hxj 2 _ (by decide) rfl
      clear hx0 hxj
      have i0 : (0 : Int) ≤ (k : Int) := by omega
      have i1 : (k : Int) < (l.length : Int) := by omega
      have hy := fun h => findP_yes (p := p) hlt h (k : Int)
      have hn := fun h => findP_no (p := p) hlt h (k : Int)
      rw [hR] at hy hn
      have hmem := List.getElem_mem hlt
      generalize l[k] = x at *
      have HC := (by rw [hp]; exact deleted_calls x wr (hf x hmem).1 (hf x hmem).2 : Calls Tryd.prog 93 #[.agg #[.int .i64 x.uid, .int .i64 x.flags, .string x.text]] wr fun e w' => e = .returned (.bool (p x)) ∧ Below wr.heap.size wr w')
      by_cases he : p x = true
      · have := hy he
        subst this
        rw [he] at HC
        replace HC := Lib.hid HC
        clear hy hn he hR
        go_wp2_with fail
        refine HC.out.mono ?_
        rintro e w2 ⟨rfl, hb2⟩
        go_wp2_with fail
        go_ret
        exact ⟨(by first | rfl | (simp; done) | (simp [*]; done) | (rw [if_pos (by omega)]; first | rfl | (simp; done)) | (rw [if_neg (by omega)]; first | rfl | (simp; done)) | (simp; omega)), hB.trans (hb2.mono hB.size)⟩
      · have hn2 := Lib.hid (hn he)
        rw [Bool.eq_false_iff.2 he] at HC
        replace HC := Lib.hid HC
        clear hy hn he hR
        go_wp2_with fail
        refine HC.out.mono ?_
        rintro e w2 ⟨rfl, hb2⟩
        go_wp2_with fail
        go_roundw
        case rel => exact ⟨k + 1, hlt, by go_num, by rw [hn2.out]; rfl, hB.trans (hb2.mono hB.size)⟩
        case measure => simp [intOf]; omega
    · obtain rfl : k = l.length := by omega
      rw [findP_end] at hR
      subst hR
      have i1 : ¬ (l.length : Int) < (l.length : Int) := by omega
      go_wp2_with fail
      go_ret
      exact ⟨(by first | rfl | (simp; done) | (simp [*]; done) | (rw [if_pos (by omega)]; first | rfl | (simp; done)) | (rw [if_neg (by omega)]; first | rfl | (simp; done)) | (simp; omega)), hB⟩
end Go.Proofs.YtijdghplfhfpaaaDoor.H

/- Boxes: slices.DeleteFunc over mails that a call owns. -/
namespace Go.Proofs.YtijdghplfhfpaaaDoor.H
open Go.RowKit Go.Proofs.YtijdghplfhfpaaaDoorW.PrintWords Go.Proofs.YtijdghplfhfpaaaDoorW.PrintLast Go.Proofs.YtijdghplfhfpaaaDoor.U
set_option linter.unusedVariables false
set_option linter.unusedSimpArgs false
section
variable {w w1 : World} {base g n cap i : Nat} {l L : List AMail} {ok : Nat → Prop}
theorem row_cells (h : Kd.R kAMail 84 w base ok (.slice (some ⟨g, 0, none⟩) n cap) L) (o : Nat) (ho : o < cap * 3) : (∃ u, w.cell? ⟨g, o, none⟩ = some u) ∧ w.frozen? ⟨g, o, none⟩ = false := by
  obtain ⟨inner, hown⟩ := Kd.R_own h
  rcases hown.2 with ⟨h1, _⟩ | ⟨g', cap', cur, h1, hb, hh, hnc, hm, hs, ht⟩
  · cases h1
  · injection h1 with h2 h3 h4
    injection h2 with h2
    injection h2 with h2 _ _
    subst h2 h4
    have hs' : cur.size = cap * 3 := hs
    refine ⟨⟨cur[o]'(by omega), ?_⟩, ?_⟩
    · simp [World.cell?, hh, show o < cur.size by omega]
    · simp [World.frozen?, hh]
theorem grown_cell1 (h : w.grownBy w1 (some g)) (o : Nat) (u : Value) : w.grownBy (w1.setCell ⟨g, o, none⟩ u) (some g) := grown_set h o u
theorem grown_cells {w : World} {g : Nat} : ∀ (us : List Value) (o : Nat) (w1 : World), w.grownBy w1 (some g) → w.grownBy (w1.setCells g o us) (some g)
  | [], _, _, h => h
  | u :: us, o, w1, h => grown_cells us (o + 1) (w1.setCell ⟨g, o, none⟩ u) (grown_set h o u)
/-- What is written behind a row's end leaves the row. -/
theorem row_beyond1 (h : Kd.R kAMail 84 w base ok (.slice (some ⟨g, 0, none⟩) n cap) L) (o : Nat) (ho : n * 3 ≤ o) (u : Value) : Kd.R kAMail 84 (w.setCell ⟨g, o, none⟩ u) base ok (.slice (some ⟨g, 0, none⟩) n cap) L := by
  obtain ⟨hn, _, _⟩ := Kd.R_reads' h
  subst hn
  obtain ⟨h0, inner, hown, hr⟩ := h
  refine ⟨h0, inner, ?_, hr⟩
  have h2 := (hown.stored o u).1
  rwa [List.set_eq_of_length_le (by rw [hown.1]; exact ho)] at h2
theorem row_beyond : ∀ (us : List Value) (o : Nat) {w : World}, Kd.R kAMail 84 w base ok (.slice (some ⟨g, 0, none⟩) n cap) L → n * 3 ≤ o → Kd.R kAMail 84 (w.setCells g o us) base ok (.slice (some ⟨g, 0, none⟩) n cap) L
  | [], _, _, h, _ => h
  | u :: us, o, w, h, ho => row_beyond us (o + 1) (row_beyond1 h o ho u) (by omega)
/-- s[i] = x -/
theorem row_store (h : Kd.R kAMail 84 w base ok (.slice (some ⟨g, 0, none⟩) n cap) L) (hi : i < n) (x : AMail) :
    Kd.R kAMail 84 (((w.setCell ⟨g, i * 3, none⟩ (.int .i64 x.uid)).setCell ⟨g, i * 3 + 1, none⟩ (.int .i64 x.flags)).setCell ⟨g, i * 3 + 2, none⟩ (.string x.text)) base ok (.slice (some ⟨g, 0, none⟩) n cap) (L.set i x) := by
  obtain ⟨hn, hnc, _⟩ := Kd.R_reads' h
  obtain ⟨⟨u0, z0⟩, _⟩ := row_cells h (i * 3) (by omega)
  obtain ⟨⟨u1, z1⟩, _⟩ := row_cells h (i * 3 + 1) (by omega)
  obtain ⟨⟨u2, z2⟩, _⟩ := row_cells h (i * 3 + 2) (by omega)
  exact (Kd.R_seg h (i : Int) (Int.natCast_nonneg i) (by omega) (c := [u0, u1, u2]) (seg := [.int .i64 x.uid, .int .i64 x.flags, .string x.text]) (j := 0) (x' := x) (okp := fun _ => False) rfl (fun j u hu => by
    match j, hu with
    | 0, hu => obtain rfl := Option.some.inj hu; exact z0
    | 1, hu => obtain rfl := Option.some.inj hu; exact z1
    | 2, hu => obtain rfl := Option.some.inj hu; exact z2
    | j + 3, hu => simp at hu) (by show 0 + 3 ≤ 3; omega) rfl (fun _ hk => hk.elim)).1
/-- clear(s[i:]) -/
theorem clear_run {P : Program} (w : World) (t e ty : TypeId) (z : Value) (ht : P.underlying t = some (.slice e)) (hv : ∀ w, (zeroValue e).run P w = .ok z w) (k : Nat) (hz : z.cells.size = k) (h1 : ∀ u ∈ z.cells.toList, u.oneCell' = true) (b o n c : Nat) (hn : 0 < n)
    (hc : ∀ j, j < n * k → (w.cell? ⟨b, o + j, none⟩).isSome = true) (hf : ∀ j, j < n * k → w.frozen? ⟨b, o + j, none⟩ = false) :
    (Builtin.clear_ #[t] ty #[.slice (some ⟨b, o, none⟩) n c]).run P w = .ok (.tuple #[]) (w.setCells b o (Builtin.zeroCells z.cells n).toList) := by
  have hlen : (Builtin.zeroCells z.cells n).toList.length = n * k := by simp [Builtin.zeroCells, hz]
  have hst := run_storeCells_cells (P := P) b o (Builtin.zeroCells z.cells n).toList 0 w (by rw [hlen]; simpa using hc) (by rw [hlen]; simpa using hf) (by
    intro v hv'
    simp only [Builtin.zeroCells, Array.toList_map, List.mem_map] at hv'
    obtain ⟨q, hq, rfl⟩ := hv'
    have hq2 : q < n * z.cells.size := by simpa using hq
    have hpos : 0 < z.cells.size := by
      rcases Nat.eq_zero_or_pos z.cells.size with h0 | h0
      · rw [h0] at hq2; omega
      · exact h0
    have hm : q % z.cells.size < z.cells.size := Nat.mod_lt _ hpos
    rw [getElem!_pos z.cells (q % z.cells.size) hm]
    exact h1 _ (by simp))
  simp only [Nat.add_zero] at hst
  obtain ⟨m, rfl⟩ : ∃ m, n = m + 1 := ⟨n - 1, by omega⟩
  simp [Builtin.clear_, run_underlying ht, hv, hst]
end
theorem filter_take {l L : List AMail} {i j : Nat} {x : AMail} (hi : i < j) (hj : j < l.length) (hL : L.length = l.length) (h1 : L.take i = (l.take j).filter keepM) (hx : l[j] = x) (hk : keepM x = true) : (L.set i x).take (i + 1) = (l.take (j + 1)).filter keepM := by
  rw [filter_step keepM hj, hx, if_pos hk, ← h1, List.take_succ_eq_append_getElem (by rw [List.length_set]; omega)]
  congr 1
  · rw [List.take_set_of_le (Nat.le_refl _)]
  · rw [List.getElem_set_self]
theorem filter_skip {l L : List AMail} {i j : Nat} {x : AMail} (hj : j < l.length) (h1 : L.take i = (l.take j).filter keepM) (hx : l[j] = x) (hk : ¬ keepM x = true) : L.take i = (l.take (j + 1)).filter keepM := by
  rw [filter_step keepM hj, hx, if_neg hk, List.append_nil, h1]
theorem drop_at {l L : List AMail} {j : Nat} (hj : j < l.length) (hL : L.length = l.length) (h : L.drop j = l.drop j) : L[j]'(by omega) = l[j] ∧ L.drop (j + 1) = l.drop (j + 1) := by
  rw [List.drop_eq_getElem_cons (by omega), List.drop_eq_getElem_cons hj] at h
  injection h with h1 h2
  exact ⟨h1, h2⟩
set_option maxHeartbeats 2000000 in
set_option maxRecDepth 100000 in
theorem deleteFunc_calls (base : Nat) (ok : Nat → Prop) (v : Value) (l : List AMail) (w : World) (hR : Kd.R kAMail 84 w base ok v l) (hbase : base ≤ w.heap.size) (hf : ∀ m ∈ l, 0 ≤ m.flags ∧ m.flags ≤ 31) (hl : l.length ≤ 30) :
    Calls Tryd.prog 92 #[v, .func (.func 93) #[] #[]] w fun e w' => ∃ v' : Value, e = .returned v' ∧ Kd.R kAMail 84 w' base ok v' (l.filter keepM) ∧ w.grownBy w' v.ownBlock := by
  rcases findP_spec (p := fun m => !keepM m) l 0 with ⟨h1, h2⟩ | ⟨k, hk, h1, h2, h3⟩
  · have hfl : l.filter keepM = l := List.filter_eq_self.2 fun m hm => by have := h2 m hm; simpa using this
    rw [hfl]
    obtain ⟨A, c, rfl, hlc, hC⟩ := Kd.R_reads hR
    have HI := indexD_calls A c l (fun m => !keepM m) w hC rfl hf
    rw [h1] at HI
    replace HI := Lib.hid HI
    go_enter Tryd.func92, Tryd.ntmps92
    go_wp2_with fail
    refine HI.out.mono ?_
    rintro e w1 ⟨rfl, hb1⟩
    go_wp2_with fail
    go_ret
    exact ⟨_, rfl, Kd.R_below hR hb1, grown_of_below hb1 _⟩
  · obtain ⟨g, cap, rfl, hgb, hgl, _⟩ := Kd.R_form hR (by omega)
    obtain ⟨_, hcap, hC⟩ := Kd.R_reads' hR
    have HI := indexD_calls (some ⟨g, 0, none⟩) cap l (fun m => !keepM m) w hC rfl hf
    rw [h1, Int.zero_add] at HI
    replace HI := Lib.hid HI
    have hstart : l.take k = (l.take (k + 1)).filter keepM := by
      rw [filter_step keepM hk, if_neg (by simpa using h2), List.append_nil]
      exact (List.filter_eq_self.2 fun m hm => by have := h3 m hm; simpa using this).symm
    have kb : ((k : Int) == -1) = false := by rw [beq_eq_false_iff_ne]; omega
    obtain ⟨i0, hi0, hzz⟩ := Option.map_eq_some_iff.1 (rowAMail : RowT Tryd.prog _ _ _ _ _).hinfo
    simp only [Prod.mk.injEq] at hzz
    go_enter Tryd.func92, Tryd.ntmps92
    go_wp2_with fail
    refine HI.out.mono ?_
    rintro e w1 ⟨rfl, hb1⟩
    have hz1 := hb1.size
    go_wp2_with fail
    go_loopw [5, 6] (fun iv jv wr => ∃ (i j : Nat) (L : List AMail), iv = .int .i64 i ∧ jv = .int .i64 j ∧ i < j ∧ j ≤ l.length ∧ L.length = l.length ∧ L.take i = (l.take j).filter keepM ∧ L.drop j = l.drop j ∧ Kd.R kAMail 84 wr base ok (.slice (some ⟨g, 0, none⟩) l.length cap) L ∧ w.grownBy wr (some g)) (fun _ jv _ => l.length - (intOf jv).toNat)
    case atStart => exact ⟨k, k + 1, l, rfl, by go_num, by omega, by omega, rfl, hstart, rfl, Kd.R_below hR hb1, grown_of_below hb1 _⟩
    case round =>
      obtain ⟨i, j, L, rfl, rfl, hij, hj, hL, ht, hd, hRL, hG⟩ := hrel
      have hzr := hG.size
      by_cases hlt : j < l.length
      · obtain ⟨hx, hd2⟩ := drop_at hlt hL hd
        obtain ⟨ad, e1, hx0, hxj⟩ := flat_at (Kd.R_reads' hRL).2.2 j (by omega)
        obtain rfl := Option.some.inj e1
        rw [hx] at hx0 hxj
        rw [add_plain] at hx0 hxj
        have hfx := hf _ (List.getElem_mem hlt)
        have q0 := hx0 _ rfl; have q1 := hxj 1 _ (by decide) rfl; have q2 := hxj 2 _ (by decide) rfl
        clear hx0 hxj
        obtain ⟨x, hlx⟩ : ∃ x, l[j] = x := ⟨_, rfl⟩
        rw [hlx] at q0 q1 q2 hfx
        replace hlx := Lib.hid hlx
        have HD := fun W => deleted_calls x W hfx.1 hfx.2
        have j0 : (0 : Int) ≤ (j : Int) := by omega
        have j1 : (j : Int) < (l.length : Int) := by omega
        have i1 : (0 : Int) ≤ (i : Int) := by omega
        have i2 : (i : Int) < (l.length : Int) := by omega
        have ea : (⟨g, 0, none⟩ : Addr).add (j * 3) = ⟨g, j * 3, none⟩ := add_plain _ _
        have eb : (⟨g, 0, none⟩ : Addr).add (i * 3) = ⟨g, i * 3, none⟩ := add_plain _ _
        have hX := Blk.made wr #[.int .i64 x.uid, .int .i64 x.flags, .string x.text] 84
        have hgr : g < wr.heap.size := by omega
        by_cases hkp : keepM x = true
        · rw [hkp] at HD
          replace HD := Lib.hid HD
          go_wp2_with fail
          refine (HD.out _).mono ?_
          rintro e w2 ⟨rfl, hb2⟩
          have hX2 := hX.below hb2 (by simp)
          have y0 := hX2.at 0 _ rfl
          have y1 := hX2.at 1 _ rfl
          have y2 := hX2.at 2 _ rfl
          have hb3 : Below wr.heap.size wr w2 := Below.trans (show Below wr.heap.size wr _ from (by repeat (first | exact Below.refl _ _ | apply below_alloc | apply pw_below_drewN | apply below_drew1 | (refine Below.setCell ?_ (by first | (simp; done) | (simp; omega) | omega) _) ))) (hb2.mono (by simp))
          have hRL2 := Kd.R_below hRL hb3
          obtain ⟨⟨u0, z0⟩, f0⟩ := row_cells hRL2 (i * 3) (by omega)
          obtain ⟨⟨u1, z1⟩, f1⟩ := row_cells hRL2 (i * 3 + 1) (by omega)
          obtain ⟨⟨u2, z2⟩, f2⟩ := row_cells hRL2 (i * 3 + 2) (by omega)
          have hRs := row_store hRL2 (show i < l.length by omega) x
          have hGs := grown_set (grown_set (grown_set (grown_trans hG (grown_of_below hb3 _)) (i * 3) (.int .i64 x.uid)) (i * 3 + 1) (.int .i64 x.flags)) (i * 3 + 2) (.string x.text)
          have hts := filter_take hij hlt hL ht hlx.out hkp
          have hds : (L.set i x).drop (j + 1) = l.drop (j + 1) := by rw [List.drop_set_of_lt (by omega)]; exact hd2
          clear hR hC hb1 hb2 hb3 hRL2 hRL hX hX2 hG HI hstart q0 q1 q2
          go_wp2_with fail
          go_roundw
          case rel => exact ⟨i + 1, j + 1, L.set i x, by go_num, by go_num, by omega, hlt, by rw [List.length_set]; exact hL, hts, hds, hRs, hGs⟩
          case measure => simp [intOf]; omega
        · rw [Bool.eq_false_iff.2 hkp] at HD
          replace HD := Lib.hid HD
          go_wp2_with fail
          refine (HD.out _).mono ?_
          rintro e w2 ⟨rfl, hb2⟩
          have hb3 : Below wr.heap.size wr w2 := Below.trans (show Below wr.heap.size wr _ from (by repeat (first | exact Below.refl _ _ | apply below_alloc | apply pw_below_drewN | apply below_drew1 | (refine Below.setCell ?_ (by first | (simp; done) | (simp; omega) | omega) _) ))) (hb2.mono (by simp))
          go_wp2_with fail
          go_roundw
          case rel => exact ⟨i, j + 1, L, rfl, by go_num, by omega, hlt, hL, filter_skip hlt ht hlx.out hkp, hd2, Kd.R_below hRL hb3, grown_trans hG (grown_of_below hb3 _)⟩
          case measure => simp [intOf]; omega
      · obtain rfl : j = l.length := by omega
        rw [List.take_length] at ht
        have j1 : ¬ (l.length : Int) < (l.length : Int) := by omega
        have i1 : (0 : Int) ≤ (i : Int) := by omega
        have i2 : (i : Int) ≤ (l.length : Int) := by omega
        have i3 : (i : Int) ≤ (cap : Int) := by omega
        have hcf := cut_from (P := Tryd.prog) 75 84 .i64 rowAMail.ht hi0 3 hzz.2.1 (some ⟨g, 0, none⟩) l.length cap (i : Int) i1 i2
        rw [Int.toNat_natCast, if_neg (by omega)] at hcf
        have ea : (⟨g, 0, none⟩ : Addr).add (i * 3) = ⟨g, i * 3, none⟩ := add_plain _ _
        simp only [Option.map_some, ea] at hcf
        have hcl := fun ty => clear_run (P := Tryd.prog) wr 75 84 ty (.agg #[.int .i64 0, .int .i64 0, .string ⟨#[]⟩]) rowAMail.ht (fun _ => by kernel_rfl) 3 rfl (by decide) g (i * 3) (l.length - i) (cap - i) (by omega)
          (fun j hj => by obtain ⟨⟨u, h⟩, _⟩ := row_cells hRL (i * 3 + j) (by omega); rw [h]; rfl) (fun j hj => (row_cells hRL (i * 3 + j) (by omega)).2)
        generalize (Builtin.zeroCells (Value.agg #[.int .i64 0, .int .i64 0, .string ⟨#[]⟩]).cells (l.length - i)).toList = us at *
        have hRt := row_beyond us (i * 3) (Kd.R_take hRL (m := i) (by omega)) (Nat.le_refl _)
        have hGt := grown_cells us (i * 3) wr hG
        rw [ht] at hRt
        clear hR hC hb1 hRL hG HI hstart hd hzz hi0
        go_wp2_with fail
        go_ret
        exact ⟨_, rfl, hRt, hGt⟩
end Go.Proofs.YtijdghplfhfpaaaDoor.H

/- Boxes: box.apply. -/
namespace Go.Proofs.YtijdghplfhfpaaaDoor.H
open Go.RowKit Go.Proofs.YtijdghplfhfpaaaDoorW.PrintWords Go.Proofs.YtijdghplfhfpaaaDoorW.PrintLast Go.Proofs.YtijdghplfhfpaaaDoor.U
set_option linter.unusedVariables false
set_option linter.unusedSimpArgs false
section
variable {ops : Array Oper} {o : Oper} {a : Act} {Q : Exit → Act → World → Prop} {Kc : Act → World → Prop}
theorem entry_step (base : Nat) {W : World} (hw : Region.wanted o (yielded ops a.tmps) = true) (s x : Operand)
    (ho : o.op = .call { callee := .builtin .append, args := #[s, x], argTypes := #[23, 23] })
    (v : Value) (xs : List AEntry) (p : AEntry) (ok : Nat → Prop) (hs : a.eval s = v) (hx : a.eval x = .slice (some ⟨W.heap.size, 0, none⟩) 1 1) (hfresh : ∀ k, W.heap.size ≤ k → ok k)
    (HO : Kd.R kAEntry 40 W base ok v xs) (hbase : base ≤ W.heap.size) (hl : (xs.length + 1) * 72 ≤ 140737488355328)
    (h : ∀ v1 w1, Kd.R kAEntry 40 w1 base ok v1 (xs ++ [p]) → Below base W w1 → W.grownBy w1 v.ownBlock → Kc (a.put o.dst v1) w1) :
    if Region.wanted o (yielded ops a.tmps) = true then Oper.wp Tryd.prog o a (W.alloc (.cells #[.int .i64 p.kind, .string p.box, .int .i64 p.uid, .int .i64 p.flags, .string p.to_, .string p.text] 40)) Kc Q else Kc (a.put o.dst undef) (W.alloc (.cells #[.int .i64 p.kind, .string p.box, .int .i64 p.uid, .int .i64 p.flags, .string p.to_, .string p.text] 40)) :=
  Kd.R_append_step kAEntry (w0 := W) base hw s x 23 40 _ 72 ho rowAEntry.ht rowAEntry.hinfo rowAEntry.hz rowAEntry.hs0 rowAEntry.hb0 v xs p [.int .i64 p.kind, .string p.box, .int .i64 p.uid, .int .i64 p.flags, .string p.to_, .string p.text] ok (fun _ => False) hs hx rfl (fun _ h => h.elim) hfresh HO (Below.refl _ _) hbase hl
    (fun v1 w1 hR hb hg _ => h v1 w1 hR hb hg)
theorem box_step (base : Nat) {W : World} (hw : Region.wanted o (yielded ops a.tmps) = true) (s x : Operand)
    (ho : o.op = .call { callee := .builtin .append, args := #[s, x], argTypes := #[22, 22] })
    (v : Value) (xs : List ABox) (nm : ByteArray) (nx : Int) (ok : Nat → Prop) (hs : a.eval s = v) (hx : a.eval x = .slice (some ⟨W.heap.size, 0, none⟩) 1 1) (hfresh : ∀ k, W.heap.size ≤ k → ok k)
    (HO : Kd.S kBox 77 W base ok v xs) (hbase : base ≤ W.heap.size) (hl : (xs.length + 1) * 48 ≤ 140737488355328)
    (h : ∀ v1 w1, Kd.S kBox 77 w1 base ok v1 (xs ++ [(nm, nx, [])]) → Below base W w1 → W.grownBy w1 v.ownBlock → Kc (a.put o.dst v1) w1) :
    if Region.wanted o (yielded ops a.tmps) = true then Oper.wp Tryd.prog o a (W.alloc (.cells #[.string nm, .int .i64 nx, .slice none 0 0] 77)) Kc Q else Kc (a.put o.dst undef) (W.alloc (.cells #[.string nm, .int .i64 nx, .slice none 0 0] 77)) :=
  Kd.S_append_step kBox (w0 := W) base hw s x 22 77 (.agg #[.string ⟨#[]⟩, .int .i64 0, .slice none 0 0]) 48 ho Tryd.underlying22 (by kernel_rfl) rfl (by decide) (by decide) v xs (nm, nx, []) [.string nm, .int .i64 nx, .slice none 0 0] ok (fun _ => False) hs hx
    ⟨[.string nm], [.int .i64 nx, .slice none 0 0], rfl, rfl, ⟨[.int .i64 nx], [.slice none 0 0], rfl, rfl, ⟨_, rfl, Kd.R_nil _ _ _ _ _⟩⟩⟩
    (fun _ h => h.elim) hfresh (Kd.S_mono HO (fun k hk => ⟨hk, fun h => h⟩)) (Below.refl _ _) hbase hl (fun v1 w1 hR hb hg _ => h v1 w1 hR hb hg)
end
def XAt (W : World) (b : Nat) (k : Int) (bx : ByteArray) (u f : Int) (to_ tx : ByteArray) : Prop :=
  W.cell? ⟨b, 0, none⟩ = some (.int .i64 k) ∧ W.cell? ⟨b, 1, none⟩ = some (.string bx) ∧ W.cell? ⟨b, 2, none⟩ = some (.int .i64 u) ∧ W.cell? ⟨b, 3, none⟩ = some (.int .i64 f) ∧ W.cell? ⟨b, 4, none⟩ = some (.string to_) ∧ W.cell? ⟨b, 5, none⟩ = some (.string tx)
theorem x_at {W : World} {b : Nat} {k : Int} {bx : ByteArray} {u f : Int} {to_ tx : ByteArray} (h : Blk W b [.int .i64 k, .string bx, .int .i64 u, .int .i64 f, .string to_, .string tx]) :
    W.cell? ⟨b, 0, none⟩ = some (.int .i64 k) ∧ W.cell? ⟨b, 1, none⟩ = some (.string bx) ∧ W.cell? ⟨b, 2, none⟩ = some (.int .i64 u) ∧ W.cell? ⟨b, 3, none⟩ = some (.int .i64 f) ∧ W.cell? ⟨b, 4, none⟩ = some (.string to_) ∧ W.cell? ⟨b, 5, none⟩ = some (.string tx) :=
  ⟨h.at 0 _ rfl, h.at 1 _ rfl, h.at 2 _ rfl, h.at 3 _ rfl, h.at 4 _ rfl, h.at 5 _ rfl⟩
set_option maxHeartbeats 2000000 in
set_option maxRecDepth 100000 in
theorem apply_spool (pb : Nat) (bx : ByteArray) (u f : Int) (to_ tx : ByteArray) (base : Nat) (bs : List ABox) (es : List AEntry) (w : World) (h : StB w base pb bs es) (hinv : InvS bs es) :
    Calls Tryd.prog 55 #[.pointer (some ⟨pb, 0, none⟩), .agg #[.int .i64 6, .string bx, .int .i64 u, .int .i64 f, .string to_, .string tx]] w fun e w' => e = .returned (.int .i64 (entV bs es ⟨6, bx, u, f, to_, tx⟩).1) ∧ StB w' base pb (entV bs es ⟨6, bx, u, f, to_, tx⟩).2.1 (entV bs es ⟨6, bx, u, f, to_, tx⟩).2.2 ∧ Below base w w' := by
  have hbase := h.bases
  have hpb := h.lt
  have hev : entV bs es ⟨6, bx, u, f, to_, tx⟩ = if 20 ≤ es.length then (5, bs, es) else (0, bs, es ++ [⟨6, bx, u, f, to_, tx⟩]) := if_pos rfl
  rw [hev]
  clear hev
  have h20 := hinv.2.1
  by_cases hf : es.length = 20
  · rw [if_pos (by omega)]
    have e20 : ((es.length : Int) == 20) = true := by rw [beq_iff_eq]; omega
    obtain ⟨vB, vS, hk, hp, hS, hE⟩ := h
    obtain ⟨A, c, rfl, hc, hC⟩ := Kd.S_reads hS
    obtain ⟨A3, c3, rfl⟩ := Kd.R_slice hE
    have hEl := Kd.R_lt hE
    have hSl := Kd.S_lt hS
    obtain ⟨W1, hW1⟩ : ∃ W1 : World, W1 = w.alloc (.cells #[.int .i64 6, .string bx, .int .i64 u, .int .i64 f, .string to_, .string tx] 40) := ⟨_, rfl⟩
    have hX1 : Blk W1 w.heap.size [.int .i64 6, .string bx, .int .i64 u, .int .i64 f, .string to_, .string tx] := by rw [hW1]; exact Blk.made w _ _
    have hXT : W1.heap[w.heap.size]? = some (.cells #[.int .i64 6, .string bx, .int .i64 u, .int .i64 f, .string to_, .string tx] 40 (0, 0)) := by rw [hW1]; show (w.heap.push _)[w.heap.size]? = _; rw [Array.getElem?_push_size]
    have hb1 : Below w.heap.size w W1 := by rw [hW1]; exact (by repeat (first | exact Below.refl _ _ | apply below_alloc | apply pw_below_drewN | apply below_drew1 | (refine Below.setCell ?_ (by first | (simp; done) | (simp; omega) | omega) _) ))
    have hk1 := hk.below hb1 hpb
    have hz1 : W1.heap.size = w.heap.size + 1 := by rw [hW1]; simp
    have hC1 := Kd.C_below hC hb1
    have HF := fun W hr => find_calls A c bs bx W hr
    have d0 := cell_drew' (hk1.at 0 _ rfl)
    have d1 := cell_drew' (hX1.at 1 _ rfl)
    replace hW1 := Lib.hid hW1
    replace HF := Lib.hid HF
    go_enter Tryd.func55, Tryd.ntmps55
    go_wp2_with fail
    rw [← hW1.out]
    go_region_held3 (fun w' => w'.cell? ⟨pb, 0, none⟩ = some (.slice A bs.length c) ∧ w'.cell? ⟨w.heap.size, 1, none⟩ = some (.string bx)) (first | exact ⟨d0, d1⟩ | exact ⟨k0, k1⟩ | go_keep) ((go_at_call 47; refine (HF.out _ (Kd.C_below hC1 (by repeat (first | exact Below.refl _ _ | apply below_alloc | apply pw_below_drewN | apply below_drew1 | (refine Below.setCell ?_ (by first | (simp; done) | (simp; omega) | omega) _) )))).mono ?_; rintro e w5 ⟨rfl, hb5⟩; have k0 := (hb5.cell (lt_of_cell' d0)).trans d0; have k1 := (hb5.cell (lt_of_cell' d1)).trans d1))
    have hb6 : Below W1.heap.size W1 w5 := Below.trans (show Below W1.heap.size W1 W1.drew from (by repeat (first | exact Below.refl _ _ | apply below_alloc | apply pw_below_drewN | apply below_drew1 | (refine Below.setCell ?_ (by first | (simp; done) | (simp; omega) | omega) _) ))) (hb5.mono (by simp))
    have hz5 := hb6.size
    have hX5 := hX1.below hb6 (by omega)
    have hXT5 := (hb6.block w.heap.size (by omega)).trans hXT
    clear hXT
    have hk5 := hk1.below hb6 (by omega)
    have hS5 := Kd.S_below (Kd.S_below hS hb1) hb6
    have hE5 := Kd.R_below (Kd.R_below hE hb1) hb6
    have hB5 := (hb1.mono hbase).trans (hb6.mono (by omega))
    clear hX1 hk1 hC1 hb5 d0 d1 k0 k1 hk hS hE hC
    have m0 := hk5.at 0 _ rfl
    have m1 := hk5.at 1 _ rfl
    have x0 := hX5.at 0 _ rfl
    have x1 := hX5.at 1 _ rfl
    have x2 := hX5.at 2 _ rfl
    have x3 := hX5.at 3 _ rfl
    have x4 := hX5.at 4 _ rfl
    have x5 := hX5.at 5 _ rfl
    go_wp2_with fail
    go_ret
    exact ⟨(by first | rfl | (simp; done) | (simp [*]; done) | (rw [if_pos (by omega)]; first | rfl | (simp; done)) | (rw [if_neg (by omega)]; first | rfl | (simp; done)) | (simp; omega)), ⟨_, _, hk5, hp, hS5, hE5⟩, hB5⟩
  · rw [if_neg (by omega)]
    have e20 : ((es.length : Int) == 20) = false := by rw [beq_eq_false_iff_ne]; omega
    obtain ⟨vB, vS, hk, hp, hS, hE⟩ := h
    obtain ⟨A, c, rfl, hc, hC⟩ := Kd.S_reads hS
    obtain ⟨A3, c3, rfl⟩ := Kd.R_slice hE
    have hEl := Kd.R_lt hE
    have hSl := Kd.S_lt hS
    obtain ⟨W1, hW1⟩ : ∃ W1 : World, W1 = w.alloc (.cells #[.int .i64 6, .string bx, .int .i64 u, .int .i64 f, .string to_, .string tx] 40) := ⟨_, rfl⟩
    have hX1 : Blk W1 w.heap.size [.int .i64 6, .string bx, .int .i64 u, .int .i64 f, .string to_, .string tx] := by rw [hW1]; exact Blk.made w _ _
    have hXT : W1.heap[w.heap.size]? = some (.cells #[.int .i64 6, .string bx, .int .i64 u, .int .i64 f, .string to_, .string tx] 40 (0, 0)) := by rw [hW1]; show (w.heap.push _)[w.heap.size]? = _; rw [Array.getElem?_push_size]
    have hb1 : Below w.heap.size w W1 := by rw [hW1]; exact (by repeat (first | exact Below.refl _ _ | apply below_alloc | apply pw_below_drewN | apply below_drew1 | (refine Below.setCell ?_ (by first | (simp; done) | (simp; omega) | omega) _) ))
    have hk1 := hk.below hb1 hpb
    have hz1 : W1.heap.size = w.heap.size + 1 := by rw [hW1]; simp
    have hC1 := Kd.C_below hC hb1
    have HF := fun W hr => find_calls A c bs bx W hr
    have d0 := cell_drew' (hk1.at 0 _ rfl)
    have d1 := cell_drew' (hX1.at 1 _ rfl)
    replace hW1 := Lib.hid hW1
    replace HF := Lib.hid HF
    go_enter Tryd.func55, Tryd.ntmps55
    go_wp2_with fail
    rw [← hW1.out]
    go_region_held3 (fun w' => w'.cell? ⟨pb, 0, none⟩ = some (.slice A bs.length c) ∧ w'.cell? ⟨w.heap.size, 1, none⟩ = some (.string bx)) (first | exact ⟨d0, d1⟩ | exact ⟨k0, k1⟩ | go_keep) ((go_at_call 47; refine (HF.out _ (Kd.C_below hC1 (by repeat (first | exact Below.refl _ _ | apply below_alloc | apply pw_below_drewN | apply below_drew1 | (refine Below.setCell ?_ (by first | (simp; done) | (simp; omega) | omega) _) )))).mono ?_; rintro e w5 ⟨rfl, hb5⟩; have k0 := (hb5.cell (lt_of_cell' d0)).trans d0; have k1 := (hb5.cell (lt_of_cell' d1)).trans d1))
    have hb6 : Below W1.heap.size W1 w5 := Below.trans (show Below W1.heap.size W1 W1.drew from (by repeat (first | exact Below.refl _ _ | apply below_alloc | apply pw_below_drewN | apply below_drew1 | (refine Below.setCell ?_ (by first | (simp; done) | (simp; omega) | omega) _) ))) (hb5.mono (by simp))
    have hz5 := hb6.size
    have hX5 := hX1.below hb6 (by omega)
    have hXT5 := (hb6.block w.heap.size (by omega)).trans hXT
    clear hXT
    have hk5 := hk1.below hb6 (by omega)
    have hS5 := Kd.S_below (Kd.S_below hS hb1) hb6
    have hE5 := Kd.R_below (Kd.R_below hE hb1) hb6
    have hB5 := (hb1.mono hbase).trans (hb6.mono (by omega))
    clear hX1 hk1 hC1 hb5 d0 d1 k0 k1 hk hS hE hC
    have m0 := hk5.at 0 _ rfl
    have m1 := hk5.at 1 _ rfl
    have x0 := hX5.at 0 _ rfl
    have x1 := hX5.at 1 _ rfl
    have x2 := hX5.at 2 _ rfl
    have x3 := hX5.at 3 _ rfl
    have x4 := hX5.at 4 _ rfl
    have x5 := hX5.at 5 _ rfl
    go_wp2_with fail
    have hEd := Kd.R_drew hE5
    have m1d := cell_drew' m1
    have hpx : pb ≠ w.heap.size := by omega
    have m1a := cell_alloc' m1 (.cells #[.int .i64 6, .string bx, .int .i64 u, .int .i64 f, .string to_, .string tx] 40)
    refine wp_region_held_drew (S := fun w' => (w'.cell? ⟨w.heap.size, 0, none⟩ = some (.int .i64 6) ∧ w'.cell? ⟨w.heap.size, 1, none⟩ = some (.string bx) ∧ w'.cell? ⟨w.heap.size, 2, none⟩ = some (.int .i64 u) ∧ w'.cell? ⟨w.heap.size, 3, none⟩ = some (.int .i64 f) ∧ w'.cell? ⟨w.heap.size, 4, none⟩ = some (.string to_) ∧ w'.cell? ⟨w.heap.size, 5, none⟩ = some (.string tx))) (by kernel_rfl) ?_ (fun hHeld => ?_)
    · exact x_at hX5.drew
    refine wpAnyH_take (i := 0) (oi := { dst := some 26, op := _, type := _, pos := _, after := _, guard := _ }) (v := .pointer (some ⟨pb, 0, none⟩)) rfl (by kernel_rfl) (by kernel_rfl) (by kernel_rfl) (fun _ _ _ h => h) (Or.inl ⟨by rfl, by (intro w hSw; (try dsimp only at hSw); first | (go_simp; done) | (go_simp; with_reducible rfl) | (go_simp; omega) | (go_simp; simp [*]; done))⟩) (by assumption) ?_; try simp only [Act.put, List.setIfInBounds_toArray, List.set_cons_zero, List.set_cons_succ]
    refine wpAnyH_take (i := 1) (oi := { dst := some 27, op := _, type := _, pos := _, after := _, guard := _ }) (v := .pointer (some ⟨pb, 0, none⟩)) rfl (by kernel_rfl) (by kernel_rfl) (by kernel_rfl) (fun _ _ _ h => h) (Or.inl ⟨by rfl, by (intro w hSw; (try dsimp only at hSw); first | (go_simp; done) | (go_simp; with_reducible rfl) | (go_simp; omega) | (go_simp; simp [*]; done))⟩) (by assumption) ?_; try simp only [Act.put, List.setIfInBounds_toArray, List.set_cons_zero, List.set_cons_succ]
    refine wpAnyH_take (i := 2) (oi := { dst := some 28, op := _, type := _, pos := _, after := _, guard := _ }) (v := .pointer (some ⟨pb, 0, none⟩)) rfl (by kernel_rfl) (by kernel_rfl) (by kernel_rfl) (fun _ _ _ h => h) (Or.inl ⟨by rfl, by (intro w hSw; (try dsimp only at hSw); first | (go_simp; done) | (go_simp; with_reducible rfl) | (go_simp; omega) | (go_simp; simp [*]; done))⟩) (by assumption) ?_; try simp only [Act.put, List.setIfInBounds_toArray, List.set_cons_zero, List.set_cons_succ]
    refine wpAnyH_take (i := 3) (oi := { dst := some 29, op := _, type := _, pos := _, after := _, guard := _ }) (v := .pointer (some ⟨pb, 1, none⟩)) rfl (by kernel_rfl) (by kernel_rfl) (by kernel_rfl) (fun _ _ _ h => h) (Or.inl ⟨by rfl, by (intro w hSw; (try dsimp only at hSw); first | (go_simp; done) | (go_simp; with_reducible rfl) | (go_simp; omega) | (go_simp; simp [*]; done))⟩) (by assumption) ?_; try simp only [Act.put, List.setIfInBounds_toArray, List.set_cons_zero, List.set_cons_succ]
    refine wpAnyH_take (i := 5) (oi := { dst := some 31, op := _, type := _, pos := _, after := _, guard := _ }) (v := .agg #[.int .i64 6, .string bx, .int .i64 u, .int .i64 f, .string to_, .string tx]) rfl (by kernel_rfl) (by kernel_rfl) (by kernel_rfl) (fun _ _ _ h => h) (Or.inl ⟨by rfl, by (intro w hSw; (try dsimp only at hSw); first | (go_simp; done) | (go_simp; with_reducible rfl) | (go_simp; omega) | (go_simp; simp [*]; done))⟩) (by assumption) ?_; try simp only [Act.put, List.setIfInBounds_toArray, List.set_cons_zero, List.set_cons_succ]
    refine wpAnyH_ready (rs := [4, 6]) (by kernel_rfl) (by simp) ?_
    refine AllReadyH.cons (o := { dst := some 30, op := _, type := _, pos := _, after := _, guard := _ }) rfl (fun K hK => ?_) (AllReadyH.cons (o := { dst := some 32, op := _, type := _, pos := _, after := _, guard := _ }) rfl (fun K hK => ?_) AllReadyH.nil)
    · go_simp
      refine hK.out _ _ (x_at hX5.drew) (fun hHeld => ?_)
      clear hK K
      refine wpAnyH_ready (rs := [6]) (by kernel_rfl) (by simp) ?_
      refine AllReadyH.cons (o := { dst := some 32, op := _, type := _, pos := _, after := _, guard := _ }) rfl (fun K hK => ?_) AllReadyH.nil
      go_simp
      refine hK.out _ _ (x_at (hX5.drew.alloc _)) (fun hHeld => ?_)
      clear hK K
      refine wpAnyH_ready (rs := [7]) (by kernel_rfl) (by simp) ?_
      refine AllReadyH.cons (o := { dst := some 33, op := _, type := _, pos := _, after := _, guard := _ }) rfl (fun K hK => ?_) AllReadyH.nil
      refine entry_step base (by rfl) (.tmp 30) (.tmp 32) (by rfl) (.slice A3 es.length c3) es ⟨6, bx, u, f, to_, tx⟩ (fun k => k ≠ pb) (by rfl) (by rfl) (fun k hk => (by simp at hk; omega)) hEd (by simp; omega) (by omega) ?_
      intro v1 w6 hR6 hb7 hg6
      obtain ⟨A6, c6, h6⟩ := Kd.R_slice hR6
      rw [List.length_append] at h6
      subst h6
      have hpo : some pb ≠ (Value.slice A3 es.length c3).ownBlock := fun he => hEd.1 pb he.symm rfl
      have hk6 := (hk5.drew).grown hg6 hpo
      have hX6 := (hX5.drew).grown hg6 (fun he => by have := hEl _ he.symm; omega)
      have hS6 := Kd.S_over' (Kd.S_drew hS5) (Kd.R_typed hEd) (by decide) hg6
      have hz6 := hb7.size
      have g1 := hk6.at 1 _ rfl
      have g2 := hk6.free 1 _ rfl
      refine hK.out _ _ (x_at hX6) (fun hHeld => ?_)
      clear hK K
      refine wpAnyH_take (i := 8) (oi := { dst := some 34, op := _, type := _, pos := _, after := _, guard := _ }) (v := .pointer (some ⟨pb, 0, none⟩)) rfl (by kernel_rfl) (by kernel_rfl) (by kernel_rfl) (fun _ _ _ h => h) (Or.inl ⟨by rfl, by (intro w hSw; (try dsimp only at hSw); first | (go_simp; done) | (go_simp; with_reducible rfl) | (go_simp; omega) | (go_simp; simp [*]; done))⟩) (by assumption) ?_; try simp only [Act.put, List.setIfInBounds_toArray, List.set_cons_zero, List.set_cons_succ]
      refine wpAnyH_take (i := 9) (oi := { dst := some 35, op := _, type := _, pos := _, after := _, guard := _ }) (v := .pointer (some ⟨pb, 1, none⟩)) rfl (by kernel_rfl) (by kernel_rfl) (by kernel_rfl) (fun _ _ _ h => h) (Or.inl ⟨by rfl, by (intro w hSw; (try dsimp only at hSw); first | (go_simp; done) | (go_simp; with_reducible rfl) | (go_simp; omega) | (go_simp; simp [*]; done))⟩) (by assumption) ?_; try simp only [Act.put, List.setIfInBounds_toArray, List.set_cons_zero, List.set_cons_succ]
      refine wpAnyH_ready (rs := [10]) (by kernel_rfl) (by simp) ?_
      refine AllReadyH.cons (o := { dst := none, op := _, type := _, pos := _, after := _, guard := _ }) rfl (fun K hK => ?_) AllReadyH.nil
      go_simp
      refine hK.out _ _ (x_at (hX6.other (c := pb) (j := 1) hpx _)) (fun hHeld => ?_)
      clear hK K
      refine wpAnyH_done (by kernel_rfl) ?_ _
      have hst : StB (w6.setCell ⟨pb, 1, none⟩ (.slice A6 (es.length + 1) c6)) base pb bs (es ++ [⟨6, bx, u, f, to_, tx⟩]) := ⟨_, _, hk6.set 1 (.slice A6 (es.length + 1) c6) (by simp), hp, Kd.S_far (p := ⟨pb, 1, none⟩) hS6 (fun k hk => hk) _, Kd.R_far (p := ⟨pb, 1, none⟩) hR6 (fun k hk => hk) _⟩
      have hB6 : Below base w (w6.setCell ⟨pb, 1, none⟩ (.slice A6 (es.length + 1) c6)) := Below.setCell (Below.trans (below_drew hB5) hb7) hp _
      go_wp2_with fail
      go_ret
      exact ⟨(by first | rfl | (simp; done) | (simp [*]; done) | (rw [if_pos (by omega)]; first | rfl | (simp; done)) | (rw [if_neg (by omega)]; first | rfl | (simp; done)) | (simp; omega)), hst, hB6⟩
    · go_simp
      refine hK.out _ _ (x_at (hX5.drew.alloc _)) (fun hHeld => ?_)
      clear hK K
      refine wpAnyH_ready (rs := [4]) (by kernel_rfl) (by simp) ?_
      refine AllReadyH.cons (o := { dst := some 30, op := _, type := _, pos := _, after := _, guard := _ }) rfl (fun K hK => ?_) AllReadyH.nil
      go_simp
      refine hK.out _ _ (x_at (hX5.drew.alloc _)) (fun hHeld => ?_)
      clear hK K
      refine wpAnyH_ready (rs := [7]) (by kernel_rfl) (by simp) ?_
      refine AllReadyH.cons (o := { dst := some 33, op := _, type := _, pos := _, after := _, guard := _ }) rfl (fun K hK => ?_) AllReadyH.nil
      refine entry_step base (by rfl) (.tmp 30) (.tmp 32) (by rfl) (.slice A3 es.length c3) es ⟨6, bx, u, f, to_, tx⟩ (fun k => k ≠ pb) (by rfl) (by rfl) (fun k hk => (by simp at hk; omega)) hEd (by simp; omega) (by omega) ?_
      intro v1 w6 hR6 hb7 hg6
      obtain ⟨A6, c6, h6⟩ := Kd.R_slice hR6
      rw [List.length_append] at h6
      subst h6
      have hpo : some pb ≠ (Value.slice A3 es.length c3).ownBlock := fun he => hEd.1 pb he.symm rfl
      have hk6 := (hk5.drew).grown hg6 hpo
      have hX6 := (hX5.drew).grown hg6 (fun he => by have := hEl _ he.symm; omega)
      have hS6 := Kd.S_over' (Kd.S_drew hS5) (Kd.R_typed hEd) (by decide) hg6
      have hz6 := hb7.size
      have g1 := hk6.at 1 _ rfl
      have g2 := hk6.free 1 _ rfl
      refine hK.out _ _ (x_at hX6) (fun hHeld => ?_)
      clear hK K
      refine wpAnyH_take (i := 8) (oi := { dst := some 34, op := _, type := _, pos := _, after := _, guard := _ }) (v := .pointer (some ⟨pb, 0, none⟩)) rfl (by kernel_rfl) (by kernel_rfl) (by kernel_rfl) (fun _ _ _ h => h) (Or.inl ⟨by rfl, by (intro w hSw; (try dsimp only at hSw); first | (go_simp; done) | (go_simp; with_reducible rfl) | (go_simp; omega) | (go_simp; simp [*]; done))⟩) (by assumption) ?_; try simp only [Act.put, List.setIfInBounds_toArray, List.set_cons_zero, List.set_cons_succ]
      refine wpAnyH_take (i := 9) (oi := { dst := some 35, op := _, type := _, pos := _, after := _, guard := _ }) (v := .pointer (some ⟨pb, 1, none⟩)) rfl (by kernel_rfl) (by kernel_rfl) (by kernel_rfl) (fun _ _ _ h => h) (Or.inl ⟨by rfl, by (intro w hSw; (try dsimp only at hSw); first | (go_simp; done) | (go_simp; with_reducible rfl) | (go_simp; omega) | (go_simp; simp [*]; done))⟩) (by assumption) ?_; try simp only [Act.put, List.setIfInBounds_toArray, List.set_cons_zero, List.set_cons_succ]
      refine wpAnyH_ready (rs := [10]) (by kernel_rfl) (by simp) ?_
      refine AllReadyH.cons (o := { dst := none, op := _, type := _, pos := _, after := _, guard := _ }) rfl (fun K hK => ?_) AllReadyH.nil
      go_simp
      refine hK.out _ _ (x_at (hX6.other (c := pb) (j := 1) hpx _)) (fun hHeld => ?_)
      clear hK K
      refine wpAnyH_done (by kernel_rfl) ?_ _
      have hst : StB (w6.setCell ⟨pb, 1, none⟩ (.slice A6 (es.length + 1) c6)) base pb bs (es ++ [⟨6, bx, u, f, to_, tx⟩]) := ⟨_, _, hk6.set 1 (.slice A6 (es.length + 1) c6) (by simp), hp, Kd.S_far (p := ⟨pb, 1, none⟩) hS6 (fun k hk => hk) _, Kd.R_far (p := ⟨pb, 1, none⟩) hR6 (fun k hk => hk) _⟩
      have hB6 : Below base w (w6.setCell ⟨pb, 1, none⟩ (.slice A6 (es.length + 1) c6)) := Below.setCell (Below.trans (below_drew hB5) hb7) hp _
      go_wp2_with fail
      go_ret
      exact ⟨(by first | rfl | (simp; done) | (simp [*]; done) | (rw [if_pos (by omega)]; first | rfl | (simp; done)) | (rw [if_neg (by omega)]; first | rfl | (simp; done)) | (simp; omega)), hst, hB6⟩
end Go.Proofs.YtijdghplfhfpaaaDoor.H

/- Boxes: the reference's StateCopy. -/
namespace Go.Proofs.YtijdghplfhfpaaaDoor.H
open Go.RowKit Go.Proofs.YtijdghplfhfpaaaDoorW.PrintWords Go.Proofs.YtijdghplfhfpaaaDoorW.PrintLast Go.Proofs.YtijdghplfhfpaaaDoor.U
set_option linter.unusedVariables false
set_option linter.unusedSimpArgs false
set_option maxHeartbeats 2000000 in
set_option maxRecDepth 100000 in
theorem stateCopy_calls (A : Option Addr) (c : Nat) (bs : List ABox) (A2 : Option Addr) (c2 : Nat) (es : List AEntry) (w : World) (hr : kBox.C w A bs.length bs) (hr2 : Kd.C kAEntry w A2 es.length es) (hl1 : bs.length ≤ 1048576) (hl2 : es.length ≤ 1048576) (hl3 : ∀ b ∈ bs, b.2.2.length ≤ 1048576) :
    Calls Tryd.prog 56 #[.agg #[.slice A bs.length c, .slice A2 es.length c2]] w fun e w' => ∃ vB vS : Value, e = .returned (.agg #[vB, vS]) ∧ Kd.S kBox 77 w' w.heap.size (fun _ => True) vB bs ∧ Kd.R kAEntry 40 w' w.heap.size (fun _ => True) vS es ∧ Below w.heap.size w w' := by
  have h63 := hr.2.1
  have h64 := hr2.2.1
  obtain ⟨W3, hW3⟩ : ∃ W3 : World, W3 = ((w.alloc (.cells #[.slice A bs.length c, .slice A2 es.length c2] 25)).alloc (.cells #[.slice none 0 0, .slice none 0 0] 25)).alloc (.cells #[.slice none 0 0, .slice none 0 0] 25) := ⟨_, rfl⟩
  have hP : Blk W3 w.heap.size [.slice A bs.length c, .slice A2 es.length c2] := by rw [hW3]; exact ((Blk.made w _ _).alloc _).alloc _
  have hQ : Blk W3 (w.heap.size + 1) [.slice none 0 0, .slice none 0 0] := by rw [hW3]; exact (Blk.made_at _ _ _ (by simp)).alloc _
  have hO : Blk W3 (w.heap.size + 1 + 1) [.slice none 0 0, .slice none 0 0] := by rw [hW3]; exact Blk.made_at _ _ _ (by simp)
  have hB0 : Below w.heap.size w W3 := by rw [hW3]; exact (by repeat (first | exact Below.refl _ _ | apply below_alloc | apply pw_below_drewN | apply below_drew1 | (refine Below.setCell ?_ (by first | (simp; done) | (simp; omega) | omega) _) ))
  have hz0 : W3.heap.size = w.heap.size + 1 + 1 + 1 := by rw [hW3]; simp
  replace hW3 := Lib.hid hW3
  go_enter Tryd.func56, Tryd.ntmps56
  go_wp2_with fail
  rw [← hW3.out]
  go_loopw [4] (fun i wr => ∃ (k : Nat) (vB : Value), k ≤ bs.length ∧ i = .int .i64 k ∧ Kd.S kBox 77 wr (w.heap.size + 1 + 1 + 1) (fun _ => True) vB (bs.take k) ∧ Blk wr w.heap.size [.slice A bs.length c, .slice A2 es.length c2] ∧ Blk wr (w.heap.size + 1) [.slice none 0 0, .slice none 0 0] ∧ Blk wr (w.heap.size + 1 + 1) [vB, .slice none 0 0] ∧ w.heap.size + 1 + 1 + 1 ≤ wr.heap.size ∧ Below w.heap.size w wr) (fun i _ => bs.length - (intOf i).toNat)
  case atStart => exact ⟨0, _, Nat.zero_le _, rfl, Kd.S_nil _ _ _ _ _, hP, hQ, hO, by omega, hB0⟩
  case round =>
    clear hP hQ hO hB0
    obtain ⟨k, vB, hk, rfl, hS, hP, hQ, hO, hz, hB⟩ := hrel
    have p0 := hP.at 0 _ rfl
    by_cases hlt : k < bs.length
    · obtain ⟨ad, Ae, ce, e1, x0, x1, x2, hC⟩ := box_at (Kd.C_below hr hB) k hlt
      subst e1
      rw [add1] at x1
      rw [add2] at x2
      have i0 : (0 : Int) ≤ (k : Int) := by omega
      have i1 : (k : Int) < (bs.length : Int) := by omega
      have hl4 := hl3 _ (List.getElem_mem hlt)
      obtain ⟨nm, nx, l, hbk⟩ : ∃ nm nx l, bs[k] = (nm, nx, l) := ⟨_, _, _, rfl⟩
      have htk := Lib.hid (boxes_take hlt hbk)
      rw [hbk] at x0 x1 x2 hC hl4
      simp only at x0 x1 x2 hC hl4
      clear hbk
      obtain ⟨Ab, cb, rfl⟩ := Kd.S_slice hS
      have hlk : (bs.take k).length = k := by rw [List.length_take]; omega
      rw [hlk] at hO
      rw [hlk] at hS
      replace hlk := Lib.hid hlk
      have p0d := cell_drew' p0
      have x0d := cell_drew' x0
      have x1d := cell_drew' x1
      go_wp2_with fail
      go_region_held3 (fun w' => w'.cell? ⟨w.heap.size, 0, none⟩ = some (.slice (some ad) bs.length c) ∧ w'.cell? (ad.add (k * 3)) = some (.string nm) ∧ w'.cell? ⟨(ad.add (k * 3)).block, (ad.add (k * 3)).off + 1, none⟩ = some (.int .i64 nx))
        (first | exact ⟨p0d, x0d, x1d⟩ | exact ⟨cell_alloc' p0d _, cell_alloc' x0d _, cell_alloc' x1d _⟩ | go_keep) (fail)
      obtain ⟨W0, hW0⟩ : ∃ W0 : World, W0 = wr := ⟨_, rfl⟩
      obtain ⟨bb, hbb⟩ : ∃ bb, bb = wr.heap.size := ⟨_, rfl⟩
      have hX0 : Blk (wr.alloc (.cells #[.string nm, .int .i64 nx, .slice none 0 0] 77)).drew bb [.string nm, .int .i64 nx, .slice none 0 0] := by rw [hbb]; exact (Blk.made _ _ _).drew
      have hB1 : Below bb wr (wr.alloc (.cells #[.string nm, .int .i64 nx, .slice none 0 0] 77)).drew := by rw [hbb]; exact (by repeat (first | exact Below.refl _ _ | apply below_alloc | apply pw_below_drewN | apply below_drew1 | (refine Below.setCell ?_ (by first | (simp; done) | (simp; omega) | omega) _) ))
      rw [← hbb]
      obtain ⟨Wn, hWn⟩ : ∃ Wn : World, Wn = (wr.alloc (.cells #[.string nm, .int .i64 nx, .slice none 0 0] 77)).drew := ⟨_, rfl⟩
      rw [← hWn] at hX0 hB1 ⊢
      replace hWn := Lib.hid hWn
      have hadb : (ad.add (k * 3)).block < bb := by rw [hbb]; exact lt_of_cell' x0
      rw [← hW0] at hB1 hP hQ hO hS hB hC hz x2 p0 hbb
      clear hW0 x0 x1 p0d x0d x1d
      have hl63 := hC.2.1
      have n0 : w.heap.size ≠ bb := by omega
      have n1 : (ad.add (k * 3)).block ≠ bb := by omega
      have hzb : w.heap.size < bb := by omega
      have hzn := hX0.lt
      replace hbb := Lib.hid hbb
      have p0n := (hB1.cell (p := ⟨w.heap.size, 0, none⟩) hzb).trans p0
      have x2n := (hB1.cell (p := ⟨(ad.add (k * 3)).block, (ad.add (k * 3)).off + 2, none⟩) hadb).trans x2
      go_wp2_with fail
      go_loopw [6] (fun i wz => ∃ (j : Nat) (vM : Value), j ≤ l.length ∧ i = .int .i64 j ∧ Kd.R kAMail 84 wz (bb + 1) (fun _ => True) vM (l.take j) ∧ Blk wz bb [.string nm, .int .i64 nx, vM] ∧ Below bb W0 wz) (fun i _ => l.length - (intOf i).toNat)
      case atStart => exact ⟨0, _, Nat.zero_le _, rfl, Kd.R_nil _ _ _ _ _, hX0, hB1⟩
      case round =>
        clear hX0 hB1 p0n x2n hzn hWn
        obtain ⟨j, vM, hj, rfl, hM, hX, hBz⟩ := hrel
        have hzz := hX.lt
        have p0z := (hBz.cell (p := ⟨w.heap.size, 0, none⟩) hzb).trans p0
        have x2z := (hBz.cell (p := ⟨(ad.add (k * 3)).block, (ad.add (k * 3)).off + 2, none⟩) hadb).trans x2
        by_cases hlj2 : j < l.length
        · have hCz : Kd.C kAMail wr Ae l.length l := Kd.C_below (by exact hC) (by rw [← hbb.out]; exact hBz)
          obtain ⟨ad2, e2, hx0, hxj⟩ := flat_at hCz j hlj2
          subst e2
          have had2 : (ad2.add (j * 3)).block < bb := by
            obtain ⟨ad3, e3, hx3, _⟩ := flat_at hC j hlj2
            obtain rfl := Option.some.inj e3
            rw [hbb.out]; exact lt_of_cell' (hx3 _ rfl)
          have q0 := hx0 _ rfl; have q1 := hxj 1 _ (by decide) rfl; have q2 := hxj 2 _ (by decide) rfl
          clear hx0 hxj
          have htj := Lib.hid (List.take_succ_eq_append_getElem hlj2)
          obtain ⟨A5, c5, rfl⟩ := Kd.R_slice hM
          have hlj : (l.take j).length = j := by rw [List.length_take]; omega
          rw [hlj] at hM hX
          replace hlj := Lib.hid hlj
          have j0 : (0 : Int) ≤ (j : Int) := by omega
          have j1 : (j : Int) < (l.length : Int) := by omega
          generalize l[j] = x at *
          have n2 : (ad2.add (j * 3)).block ≠ bb := by omega
          have had2' : (ad2.add (j * 3)).block < bb + 1 := by omega
          have hadb' : (ad.add (k * 3)).block < bb + 1 := by omega
          have p0d := cell_drew' p0z
          have x2d := cell_drew' x2z
          have q0d := cell_drew' q0
          have q1d := cell_drew' q1
          have q2d := cell_drew' q2
          have hXd := hX.drew
          have hMd := Kd.R_drew hM
          have o2d := hX.at 2 _ rfl
          have o2a := cell_alloc' o2d (.cells #[.int .i64 x.uid, .int .i64 x.flags, .string x.text] 84)
          go_wp2_with fail
          refine wp_region_held_drew (S := fun w' => w'.cell? ⟨w.heap.size, 0, none⟩ = some (.slice (some ad) bs.length c) ∧ w'.cell? ⟨(ad.add (k * 3)).block, (ad.add (k * 3)).off + 2, none⟩ = some (.slice (some ad2) l.length ce) ∧ w'.cell? (ad2.add (j * 3)) = some (.int .i64 x.uid) ∧ w'.cell? ⟨(ad2.add (j * 3)).block, (ad2.add (j * 3)).off + 1, none⟩ = some (.int .i64 x.flags) ∧ w'.cell? ⟨(ad2.add (j * 3)).block, (ad2.add (j * 3)).off + 2, none⟩ = some (.string x.text)) (by kernel_rfl) ?_ (fun hHeld => ?_)
          · exact ⟨p0d, x2d, q0d, q1d, q2d⟩
          refine wpAnyH_take (i := 0) (oi := { dst := some 39, op := _, type := _, pos := _, after := _, guard := _ }) (v := .pointer (some ⟨bb, 2, none⟩)) rfl (by kernel_rfl) (by kernel_rfl) (by kernel_rfl) (fun _ _ _ h => h) (Or.inl ⟨by rfl, by (intro w hSw; (try dsimp only at hSw); first | (go_simp; done) | (go_simp; with_reducible rfl) | (go_simp; omega) | (go_simp; simp [*]; done))⟩) (by assumption) ?_; try simp only [Act.put, List.setIfInBounds_toArray, List.set_cons_zero, List.set_cons_succ]
          refine wpAnyH_take (i := 2) (oi := { dst := some 41, op := _, type := _, pos := _, after := _, guard := _ }) (v := .pointer (some ⟨w.heap.size, 0, none⟩)) rfl (by kernel_rfl) (by kernel_rfl) (by kernel_rfl) (fun _ _ _ h => h) (Or.inl ⟨by rfl, by (intro w hSw; (try dsimp only at hSw); first | (go_simp; done) | (go_simp; with_reducible rfl) | (go_simp; omega) | (go_simp; simp [*]; done))⟩) (by assumption) ?_; try simp only [Act.put, List.setIfInBounds_toArray, List.set_cons_zero, List.set_cons_succ]
          refine wpAnyH_take (i := 3) (oi := { dst := some 42, op := _, type := _, pos := _, after := _, guard := _ }) (v := .slice (some ad) bs.length c) rfl (by kernel_rfl) (by kernel_rfl) (by kernel_rfl) (fun _ _ _ h => h) (Or.inl ⟨by rfl, by (intro w hSw; (try dsimp only at hSw); first | (go_simp; done) | (go_simp; with_reducible rfl) | (go_simp; omega) | (go_simp; simp [*]; done))⟩) (by assumption) ?_; try simp only [Act.put, List.setIfInBounds_toArray, List.set_cons_zero, List.set_cons_succ]
          refine wpAnyH_take (i := 4) (oi := { dst := some 43, op := _, type := _, pos := _, after := _, guard := _ }) (v := .int .i64 k) rfl (by kernel_rfl) (by kernel_rfl) (by kernel_rfl) (fun _ _ _ h => h) (Or.inl ⟨by rfl, by (intro w hSw; (try dsimp only at hSw); first | (go_simp; done) | (go_simp; with_reducible rfl) | (go_simp; omega) | (go_simp; simp [*]; done))⟩) (by assumption) ?_; try simp only [Act.put, List.setIfInBounds_toArray, List.set_cons_zero, List.set_cons_succ]
          refine wpAnyH_take (i := 5) (oi := { dst := some 44, op := _, type := _, pos := _, after := _, guard := _ }) (v := .pointer (some (ad.add (k * 3)))) rfl (by kernel_rfl) (by kernel_rfl) (by kernel_rfl) (fun _ _ _ h => h) (Or.inl ⟨by rfl, by (intro w hSw; (try dsimp only at hSw); first | (go_simp; done) | (go_simp; with_reducible rfl) | (go_simp; omega) | (go_simp; simp [*]; done))⟩) (by assumption) ?_; try simp only [Act.put, List.setIfInBounds_toArray, List.set_cons_zero, List.set_cons_succ]
          refine wpAnyH_take (i := 6) (oi := { dst := some 45, op := _, type := _, pos := _, after := _, guard := _ }) (v := .pointer (some ⟨(ad.add (k * 3)).block, (ad.add (k * 3)).off + 2, none⟩)) rfl (by kernel_rfl) (by kernel_rfl) (by kernel_rfl) (fun _ _ _ h => h) (Or.inl ⟨by rfl, by (intro w hSw; (try dsimp only at hSw); first | (go_simp; done) | (go_simp; with_reducible rfl) | (go_simp; omega) | (go_simp; simp [*]; done))⟩) (by assumption) ?_; try simp only [Act.put, List.setIfInBounds_toArray, List.set_cons_zero, List.set_cons_succ]
          refine wpAnyH_take (i := 7) (oi := { dst := some 46, op := _, type := _, pos := _, after := _, guard := _ }) (v := .slice (some ad2) l.length ce) rfl (by kernel_rfl) (by kernel_rfl) (by kernel_rfl) (fun _ _ _ h => h) (Or.inl ⟨by rfl, by (intro w hSw; (try dsimp only at hSw); first | (go_simp; done) | (go_simp; with_reducible rfl) | (go_simp; omega) | (go_simp; simp [*]; done))⟩) (by assumption) ?_; try simp only [Act.put, List.setIfInBounds_toArray, List.set_cons_zero, List.set_cons_succ]
          refine wpAnyH_take (i := 8) (oi := { dst := some 47, op := _, type := _, pos := _, after := _, guard := _ }) (v := .int .i64 j) rfl (by kernel_rfl) (by kernel_rfl) (by kernel_rfl) (fun _ _ _ h => h) (Or.inl ⟨by rfl, by (intro w hSw; (try dsimp only at hSw); first | (go_simp; done) | (go_simp; with_reducible rfl) | (go_simp; omega) | (go_simp; simp [*]; done))⟩) (by assumption) ?_; try simp only [Act.put, List.setIfInBounds_toArray, List.set_cons_zero, List.set_cons_succ]
          refine wpAnyH_take (i := 9) (oi := { dst := some 48, op := _, type := _, pos := _, after := _, guard := _ }) (v := .pointer (some (ad2.add (j * 3)))) rfl (by kernel_rfl) (by kernel_rfl) (by kernel_rfl) (fun _ _ _ h => h) (Or.inl ⟨by rfl, by (intro w hSw; (try dsimp only at hSw); first | (go_simp; done) | (go_simp; with_reducible rfl) | (go_simp; omega) | (go_simp; simp [*]; done))⟩) (by assumption) ?_; try simp only [Act.put, List.setIfInBounds_toArray, List.set_cons_zero, List.set_cons_succ]
          refine wpAnyH_take (i := 10) (oi := { dst := some 49, op := _, type := _, pos := _, after := _, guard := _ }) (v := .agg #[.int .i64 x.uid, .int .i64 x.flags, .string x.text]) rfl (by kernel_rfl) (by kernel_rfl) (by kernel_rfl) (fun _ _ _ h => h) (Or.inl ⟨by rfl, by (intro w hSw; (try dsimp only at hSw); first | (go_simp; done) | (go_simp; with_reducible rfl) | (go_simp; omega) | (go_simp; simp [*]; done))⟩) (by assumption) ?_; try simp only [Act.put, List.setIfInBounds_toArray, List.set_cons_zero, List.set_cons_succ]
          refine wpAnyH_ready (rs := [1, 11]) (by kernel_rfl) (by simp) ?_
          refine AllReadyH.cons (o := { dst := some 40, op := _, type := _, pos := _, after := _, guard := _ }) rfl (fun K hK => ?_) (AllReadyH.cons (o := { dst := some 50, op := _, type := _, pos := _, after := _, guard := _ }) rfl (fun K hK => ?_) AllReadyH.nil)
          · go_simp
            refine hK.out _ _ ⟨p0d, x2d, q0d, q1d, q2d⟩ (fun hHeld => ?_)
            clear hK K
            refine wpAnyH_ready (rs := [11]) (by kernel_rfl) (by simp) ?_
            refine AllReadyH.cons (o := { dst := some 50, op := _, type := _, pos := _, after := _, guard := _ }) rfl (fun K hK => ?_) AllReadyH.nil
            go_simp
            refine hK.out _ _ ⟨cell_alloc' p0d _, cell_alloc' x2d _, cell_alloc' q0d _, cell_alloc' q1d _, cell_alloc' q2d _⟩ (fun hHeld => ?_)
            clear hK K
            refine wpAnyH_ready (rs := [12]) (by kernel_rfl) (by simp) ?_
            refine AllReadyH.cons (o := { dst := some 51, op := _, type := _, pos := _, after := _, guard := _ }) rfl (fun K hK => ?_) AllReadyH.nil
            refine mail_step (bb + 1) (by rfl) (.tmp 40) (.tmp 50) (by rfl) (.slice A5 j c5) (l.take j) x (fun _ => True) (by rfl) (by rfl) (fun _ _ => trivial) hMd (by simp; omega) (by rw [hlj.out]; omega) ?_
            intro v1 w6 hM6 hb6 hg6
            obtain ⟨A6, c6, h6⟩ := Kd.R_slice hM6
            rw [List.length_append, hlj.out] at h6
            subst h6
            have hz6 := hb6.size
            simp at hz6
            have k0 := (hb6.cell (p := ⟨w.heap.size, 0, none⟩) (by show w.heap.size < bb + 1; omega)).trans p0d
            have k1 := (hb6.cell (p := ⟨(ad.add (k * 3)).block, (ad.add (k * 3)).off + 2, none⟩) hadb').trans x2d
            have k2 := (hb6.cell (p := ad2.add (j * 3)) had2').trans q0d
            have k3 := (hb6.cell (p := ⟨(ad2.add (j * 3)).block, (ad2.add (j * 3)).off + 1, none⟩) had2').trans q1d
            have k4 := (hb6.cell (p := ⟨(ad2.add (j * 3)).block, (ad2.add (j * 3)).off + 2, none⟩) had2').trans q2d
            have hX6 := hXd.below hb6 (by omega)
            have t0 := hX6.at 2 _ rfl
            have t1 := hX6.free 2 _ rfl
            refine hK.out _ _ ⟨k0, k1, k2, k3, k4⟩ (fun hHeld => ?_)
            clear hK K
            refine wpAnyH_take (i := 13) (oi := { dst := some 52, op := _, type := _, pos := _, after := _, guard := _ }) (v := .pointer (some ⟨bb, 2, none⟩)) rfl (by kernel_rfl) (by kernel_rfl) (by kernel_rfl) (fun _ _ _ h => h) (Or.inl ⟨by rfl, by (intro w hSw; (try dsimp only at hSw); first | (go_simp; done) | (go_simp; with_reducible rfl) | (go_simp; omega) | (go_simp; simp [*]; done))⟩) (by assumption) ?_; try simp only [Act.put, List.setIfInBounds_toArray, List.set_cons_zero, List.set_cons_succ]
            refine wpAnyH_ready (rs := [14]) (by kernel_rfl) (by simp) ?_
            refine AllReadyH.cons (o := { dst := none, op := _, type := _, pos := _, after := _, guard := _ }) rfl (fun K hK => ?_) AllReadyH.nil
            go_simp
            refine hK.out _ _ ⟨cell_other' k0 (c := bb) (j := 2) n0 _, cell_other' k1 (c := bb) (j := 2) n1 _, cell_other' k2 (c := bb) (j := 2) n2 _, cell_other' k3 (c := bb) (j := 2) n2 _, cell_other' k4 (c := bb) (j := 2) n2 _⟩ (fun hHeld => ?_)
            clear hK K
            refine wpAnyH_done (by kernel_rfl) ?_ _
            go_wp2_with fail
            go_roundw
            case rel => exact ⟨j + 1, _, hlj2, by go_num, by rw [htj.out]; exact R_elder hM6 (show bb < bb + 1 by omega) _, hX6.set 2 _ (by simp), Below.setCell (Below.trans hBz (Below.mono (Below.trans (below_drew (Below.refl (bb + 1) wr)) hb6) (Nat.le_succ _))) (show bb ≤ bb from Nat.le_refl _) _⟩
            case measure => simp [intOf]; omega
          · go_simp
            refine hK.out _ _ ⟨cell_alloc' p0d _, cell_alloc' x2d _, cell_alloc' q0d _, cell_alloc' q1d _, cell_alloc' q2d _⟩ (fun hHeld => ?_)
            clear hK K
            refine wpAnyH_ready (rs := [1]) (by kernel_rfl) (by simp) ?_
            refine AllReadyH.cons (o := { dst := some 40, op := _, type := _, pos := _, after := _, guard := _ }) rfl (fun K hK => ?_) AllReadyH.nil
            go_simp
            refine hK.out _ _ ⟨cell_alloc' p0d _, cell_alloc' x2d _, cell_alloc' q0d _, cell_alloc' q1d _, cell_alloc' q2d _⟩ (fun hHeld => ?_)
            clear hK K
            refine wpAnyH_ready (rs := [12]) (by kernel_rfl) (by simp) ?_
            refine AllReadyH.cons (o := { dst := some 51, op := _, type := _, pos := _, after := _, guard := _ }) rfl (fun K hK => ?_) AllReadyH.nil
            refine mail_step (bb + 1) (by rfl) (.tmp 40) (.tmp 50) (by rfl) (.slice A5 j c5) (l.take j) x (fun _ => True) (by rfl) (by rfl) (fun _ _ => trivial) hMd (by simp; omega) (by rw [hlj.out]; omega) ?_
            intro v1 w6 hM6 hb6 hg6
            obtain ⟨A6, c6, h6⟩ := Kd.R_slice hM6
            rw [List.length_append, hlj.out] at h6
            subst h6
            have hz6 := hb6.size
            simp at hz6
            have k0 := (hb6.cell (p := ⟨w.heap.size, 0, none⟩) (by show w.heap.size < bb + 1; omega)).trans p0d
            have k1 := (hb6.cell (p := ⟨(ad.add (k * 3)).block, (ad.add (k * 3)).off + 2, none⟩) hadb').trans x2d
            have k2 := (hb6.cell (p := ad2.add (j * 3)) had2').trans q0d
            have k3 := (hb6.cell (p := ⟨(ad2.add (j * 3)).block, (ad2.add (j * 3)).off + 1, none⟩) had2').trans q1d
            have k4 := (hb6.cell (p := ⟨(ad2.add (j * 3)).block, (ad2.add (j * 3)).off + 2, none⟩) had2').trans q2d
            have hX6 := hXd.below hb6 (by omega)
            have t0 := hX6.at 2 _ rfl
            have t1 := hX6.free 2 _ rfl
            refine hK.out _ _ ⟨k0, k1, k2, k3, k4⟩ (fun hHeld => ?_)
            clear hK K
            refine wpAnyH_take (i := 13) (oi := { dst := some 52, op := _, type := _, pos := _, after := _, guard := _ }) (v := .pointer (some ⟨bb, 2, none⟩)) rfl (by kernel_rfl) (by kernel_rfl) (by kernel_rfl) (fun _ _ _ h => h) (Or.inl ⟨by rfl, by (intro w hSw; (try dsimp only at hSw); first | (go_simp; done) | (go_simp; with_reducible rfl) | (go_simp; omega) | (go_simp; simp [*]; done))⟩) (by assumption) ?_; try simp only [Act.put, List.setIfInBounds_toArray, List.set_cons_zero, List.set_cons_succ]
            refine wpAnyH_ready (rs := [14]) (by kernel_rfl) (by simp) ?_
            refine AllReadyH.cons (o := { dst := none, op := _, type := _, pos := _, after := _, guard := _ }) rfl (fun K hK => ?_) AllReadyH.nil
            go_simp
            refine hK.out _ _ ⟨cell_other' k0 (c := bb) (j := 2) n0 _, cell_other' k1 (c := bb) (j := 2) n1 _, cell_other' k2 (c := bb) (j := 2) n2 _, cell_other' k3 (c := bb) (j := 2) n2 _, cell_other' k4 (c := bb) (j := 2) n2 _⟩ (fun hHeld => ?_)
            clear hK K
            refine wpAnyH_done (by kernel_rfl) ?_ _
            go_wp2_with fail
            go_roundw
            case rel => exact ⟨j + 1, _, hlj2, by go_num, by rw [htj.out]; exact R_elder hM6 (show bb < bb + 1 by omega) _, hX6.set 2 _ (by simp), Below.setCell (Below.trans hBz (Below.mono (Below.trans (below_drew (Below.refl (bb + 1) wr)) hb6) (Nat.le_succ _))) (show bb ≤ bb from Nat.le_refl _) _⟩
            case measure => simp [intOf]; omega
        · obtain rfl : j = l.length := by omega
          rw [List.take_length] at hM
          obtain ⟨Am, cm, rfl⟩ := Kd.R_slice hM
          have hBW : Below W0.heap.size W0 wr := by rw [← hbb.out]; exact hBz
          have h3z : w.heap.size + 1 + 1 + 1 ≤ bb := by have := hbb.out; omega
          have hO1 := hO.below hBz (by omega)
          have o0 := hO1.at 0 _ rfl
          have o1 := hO1.free 0 _ rfl
          have y0 := hX.at 0 _ rfl
          have y1 := hX.at 1 _ rfl
          have y2 := hX.at 2 _ rfl
          have j1 : ¬ (l.length : Int) < (l.length : Int) := by omega
          have hS2 : Kd.S kBox 77 wr (w.heap.size + 1 + 1 + 1) (fun k => k < bb + 1) (.slice Ab k cb) (bs.take k) := Kd.S_mono (S_since hS hBW) (fun k hk => by have h1 := hbb.out; have h2 : k < W0.heap.size := hk; show k < bb + 1; omega)
          have hB2 := hB.trans (hBW.mono (by have := hbb.out; omega))
          go_wp2_with (at_builtin; refine snocS_list (w.heap.size + 1 + 1 + 1) (bb + 1) rfl _ _ rfl (.slice Ab k cb) (bs.take k) nm nx l (.slice Am l.length cm) (by first | rfl | (simp [Act.eval]; done)) (by first | rfl | (simp [Act.eval]; done)) hM (by omega) hS2 (by omega) (by rw [hlk.out]; omega) ?_)
          intro v9 w9 hS9 hb9
          have hz9 := hb9.size
          have hO9 := hO1.below hb9 (by omega)
          have hP9 := (hP.below hBz (by omega)).below hb9 (by omega)
          have hQ9 := (hQ.below hBz (by omega)).below hb9 (by omega)
          have g0 := hO9.at 0 _ rfl
          have g1 := hO9.free 0 _ rfl
          have hB9 : Below w.heap.size w w9 := hB2.trans (hb9.mono (by omega))
          clear o0 o1 y0 y1 y2 hO1 hX hS2 hM hb9
          obtain ⟨A9, c9, h9⟩ := Kd.S_slice hS9
          rw [List.length_append, hlk.out] at h9
          subst h9
          go_wp2_with fail
          go_roundw
          case rel => exact ⟨k + 1, _, hlt, by go_num, by rw [htk.out]; exact S_elder hS9 (by show w.heap.size + 1 + 1 < w.heap.size + 1 + 1 + 1; omega) _, hP9.other (by omega) _, hQ9.other (by omega) _, hO9.set 0 _ (by simp), by simp; omega, Below.setCell hB9 (by show w.heap.size ≤ w.heap.size + 1 + 1; omega) _⟩
          case measure => simp [intOf]; omega
    · obtain rfl : k = bs.length := by omega
      rw [List.take_length] at hS
      have i1 : ¬ (bs.length : Int) < (bs.length : Int) := by omega
      obtain ⟨Ab, cb, rfl⟩ := Kd.S_slice hS
      have p1 := hP.at 1 _ rfl
      obtain ⟨bb, hbb⟩ : ∃ bb, bb = wr.heap.size := ⟨_, rfl⟩
      have hz4 : w.heap.size + 1 + 1 + 1 ≤ bb := by omega
      have hS4 : Kd.S kBox 77 wr (w.heap.size + 1 + 1 + 1) (fun k => k < bb ∧ k ≠ w.heap.size + 1 + 1) (.slice Ab bs.length cb) bs := Kd.S_mono (Kd.S_bound hS) (fun k hk => ⟨by rw [hbb]; exact hk.2.2.1, by have := hk.2.1; omega⟩)
      have hbl : bb ≤ wr.heap.size := by omega
      have hb0 : Kd.R kAEntry 40 wr bb (fun _ => True) (.slice none 0 0) (es.take 0) := Kd.R_nil _ _ _ _ _
      clear hbb hS hz
      go_wp2_with fail
      go_loopw [7] (fun i wz => ∃ (k : Nat) (vS : Value), k ≤ es.length ∧ i = .int .i64 k ∧ Kd.R kAEntry 40 wz bb (fun _ => True) vS (es.take k) ∧ Kd.S kBox 77 wz (w.heap.size + 1 + 1 + 1) (fun k => k < bb ∧ k ≠ w.heap.size + 1 + 1) (.slice Ab bs.length cb) bs ∧ Blk wz w.heap.size [.slice A bs.length c, .slice A2 es.length c2] ∧ Blk wz (w.heap.size + 1) [.slice none 0 0, .slice none 0 0] ∧ Blk wz (w.heap.size + 1 + 1) [.slice Ab bs.length cb, vS] ∧ bb ≤ wz.heap.size ∧ Below w.heap.size w wz) (fun i _ => es.length - (intOf i).toNat)
      case atStart => exact ⟨0, _, Nat.zero_le _, rfl, hb0, hS4, hP, hQ, hO, hbl, hB⟩
      case round =>
        clear hb0 hS4 hP hQ hO hbl hB p0 p1
        obtain ⟨k, vS, hk, rfl, hR, hS, hP, hQ, hO, hbl, hB⟩ := hrel
        have p1 := hP.at 1 _ rfl
        by_cases hlt : k < es.length
        · obtain ⟨ad, e1, hx0, hxj⟩ := flat_at (Kd.C_below hr2 hB) k hlt
          subst e1
          have hadw : (ad.add (k * 6)).block < w.heap.size := by
            obtain ⟨ad3, e3, hx3, _⟩ := flat_at hr2 k hlt
            obtain rfl := Option.some.inj e3
            exact lt_of_cell' (hx3 _ rfl)
          have q0 := hx0 _ rfl; have q1 := hxj 1 _ (by decide) rfl; have q2 := hxj 2 _ (by decide) rfl; have q3 := hxj 3 _ (by decide) rfl; have q4 := hxj 4 _ (by decide) rfl; have q5 := hxj 5 _ (by decide) rfl
          clear hx0 hxj
          have htk := Lib.hid (List.take_succ_eq_append_getElem hlt)
          obtain ⟨A5, c5, rfl⟩ := Kd.R_slice hR
          have hlk : (es.take k).length = k := by rw [List.length_take]; omega
          rw [hlk] at hR hO
          replace hlk := Lib.hid hlk
          have i0 : (0 : Int) ≤ (k : Int) := by omega
          have i1 : (k : Int) < (es.length : Int) := by omega
          generalize es[k] = x at *
          have n1 : (ad.add (k * 6)).block ≠ w.heap.size + 1 + 1 := by omega
          have n0 : w.heap.size ≠ w.heap.size + 1 + 1 := by omega
          have p1d := cell_drew' p1
          have q0d := cell_drew' q0
          have q1d := cell_drew' q1
          have q2d := cell_drew' q2
          have q3d := cell_drew' q3
          have q4d := cell_drew' q4
          have q5d := cell_drew' q5
          have hPd := hP.drew
          have hQd := hQ.drew
          have hOd := hO.drew
          have hRd := Kd.R_drew hR
          have hSd := Kd.S_drew hS
          have hBd := below_drew hB
          have o2d := hO.at 1 _ rfl
          have o2a := cell_alloc' o2d (.cells #[.int .i64 x.kind, .string x.box, .int .i64 x.uid, .int .i64 x.flags, .string x.to_, .string x.text] 40)
          go_wp2_with fail
          refine wp_region_held_drew (S := fun w' => w'.cell? ⟨w.heap.size, 1, none⟩ = some (.slice (some ad) es.length c2) ∧ w'.cell? (ad.add (k * 6)) = some (.int .i64 x.kind) ∧ w'.cell? ⟨(ad.add (k * 6)).block, (ad.add (k * 6)).off + 1, none⟩ = some (.string x.box) ∧ w'.cell? ⟨(ad.add (k * 6)).block, (ad.add (k * 6)).off + 2, none⟩ = some (.int .i64 x.uid) ∧ w'.cell? ⟨(ad.add (k * 6)).block, (ad.add (k * 6)).off + 3, none⟩ = some (.int .i64 x.flags) ∧ w'.cell? ⟨(ad.add (k * 6)).block, (ad.add (k * 6)).off + 4, none⟩ = some (.string x.to_) ∧ w'.cell? ⟨(ad.add (k * 6)).block, (ad.add (k * 6)).off + 5, none⟩ = some (.string x.text)) (by kernel_rfl) ?_ (fun hHeld => ?_)
          · exact ⟨p1d, q0d, q1d, q2d, q3d, q4d, q5d⟩
          refine wpAnyH_take (i := 0) (oi := { dst := some 66, op := _, type := _, pos := _, after := _, guard := _ }) (v := .pointer (some ⟨w.heap.size + 1 + 1, 1, none⟩)) rfl (by kernel_rfl) (by kernel_rfl) (by kernel_rfl) (fun _ _ _ h => h) (Or.inl ⟨by rfl, by (intro w hSw; (try dsimp only at hSw); first | (go_simp; done) | (go_simp; with_reducible rfl) | (go_simp; omega) | (go_simp; simp [*]; done))⟩) (by assumption) ?_; try simp only [Act.put, List.setIfInBounds_toArray, List.set_cons_zero, List.set_cons_succ]
          refine wpAnyH_take (i := 2) (oi := { dst := some 68, op := _, type := _, pos := _, after := _, guard := _ }) (v := .pointer (some ⟨w.heap.size, 1, none⟩)) rfl (by kernel_rfl) (by kernel_rfl) (by kernel_rfl) (fun _ _ _ h => h) (Or.inl ⟨by rfl, by (intro w hSw; (try dsimp only at hSw); first | (go_simp; done) | (go_simp; with_reducible rfl) | (go_simp; omega) | (go_simp; simp [*]; done))⟩) (by assumption) ?_; try simp only [Act.put, List.setIfInBounds_toArray, List.set_cons_zero, List.set_cons_succ]
          refine wpAnyH_take (i := 3) (oi := { dst := some 69, op := _, type := _, pos := _, after := _, guard := _ }) (v := .slice (some ad) es.length c2) rfl (by kernel_rfl) (by kernel_rfl) (by kernel_rfl) (fun _ _ _ h => h) (Or.inl ⟨by rfl, by (intro w hSw; (try dsimp only at hSw); first | (go_simp; done) | (go_simp; with_reducible rfl) | (go_simp; omega) | (go_simp; simp [*]; done))⟩) (by assumption) ?_; try simp only [Act.put, List.setIfInBounds_toArray, List.set_cons_zero, List.set_cons_succ]
          refine wpAnyH_take (i := 4) (oi := { dst := some 70, op := _, type := _, pos := _, after := _, guard := _ }) (v := .int .i64 k) rfl (by kernel_rfl) (by kernel_rfl) (by kernel_rfl) (fun _ _ _ h => h) (Or.inl ⟨by rfl, by (intro w hSw; (try dsimp only at hSw); first | (go_simp; done) | (go_simp; with_reducible rfl) | (go_simp; omega) | (go_simp; simp [*]; done))⟩) (by assumption) ?_; try simp only [Act.put, List.setIfInBounds_toArray, List.set_cons_zero, List.set_cons_succ]
          refine wpAnyH_take (i := 5) (oi := { dst := some 71, op := _, type := _, pos := _, after := _, guard := _ }) (v := .pointer (some (ad.add (k * 6)))) rfl (by kernel_rfl) (by kernel_rfl) (by kernel_rfl) (fun _ _ _ h => h) (Or.inl ⟨by rfl, by (intro w hSw; (try dsimp only at hSw); first | (go_simp; done) | (go_simp; with_reducible rfl) | (go_simp; omega) | (go_simp; simp [*]; done))⟩) (by assumption) ?_; try simp only [Act.put, List.setIfInBounds_toArray, List.set_cons_zero, List.set_cons_succ]
          refine wpAnyH_take (i := 6) (oi := { dst := some 72, op := _, type := _, pos := _, after := _, guard := _ }) (v := .agg #[.int .i64 x.kind, .string x.box, .int .i64 x.uid, .int .i64 x.flags, .string x.to_, .string x.text]) rfl (by kernel_rfl) (by kernel_rfl) (by kernel_rfl) (fun _ _ _ h => h) (Or.inl ⟨by rfl, by (intro w hSw; (try dsimp only at hSw); first | (go_simp; done) | (go_simp; with_reducible rfl) | (go_simp; omega) | (go_simp; simp [*]; done))⟩) (by assumption) ?_; try simp only [Act.put, List.setIfInBounds_toArray, List.set_cons_zero, List.set_cons_succ]
          refine wpAnyH_ready (rs := [1, 7]) (by kernel_rfl) (by simp) ?_
          refine AllReadyH.cons (o := { dst := some 67, op := _, type := _, pos := _, after := _, guard := _ }) rfl (fun K hK => ?_) (AllReadyH.cons (o := { dst := some 73, op := _, type := _, pos := _, after := _, guard := _ }) rfl (fun K hK => ?_) AllReadyH.nil)
          · go_simp
            refine hK.out _ _ ⟨p1d, q0d, q1d, q2d, q3d, q4d, q5d⟩ (fun hHeld => ?_)
            clear hK K
            refine wpAnyH_ready (rs := [7]) (by kernel_rfl) (by simp) ?_
            refine AllReadyH.cons (o := { dst := some 73, op := _, type := _, pos := _, after := _, guard := _ }) rfl (fun K hK => ?_) AllReadyH.nil
            go_simp
            refine hK.out _ _ ⟨cell_alloc' p1d _, cell_alloc' q0d _, cell_alloc' q1d _, cell_alloc' q2d _, cell_alloc' q3d _, cell_alloc' q4d _, cell_alloc' q5d _⟩ (fun hHeld => ?_)
            clear hK K
            refine wpAnyH_ready (rs := [8]) (by kernel_rfl) (by simp) ?_
            refine AllReadyH.cons (o := { dst := some 74, op := _, type := _, pos := _, after := _, guard := _ }) rfl (fun K hK => ?_) AllReadyH.nil
            refine entry_step bb (by rfl) (.tmp 67) (.tmp 73) (by rfl) (.slice A5 k c5) (es.take k) x (fun _ => True) (by rfl) (by rfl) (fun _ _ => trivial) hRd (by simp; omega) (by rw [hlk.out]; omega) ?_
            intro v1 w6 hR6 hb6 hg6
            obtain ⟨A6, c6, h6⟩ := Kd.R_slice hR6
            rw [List.length_append, hlk.out] at h6
            subst h6
            have hz6 := hb6.size
            simp at hz6
            have hP6 := hPd.below hb6 (by omega)
            have hQ6 := hQd.below hb6 (by omega)
            have hO6 := hOd.below hb6 (by omega)
            have k1 := hP6.at 1 _ rfl
            have hadb : (ad.add (k * 6)).block < bb := by omega
            have r0 := (hb6.cell (p := ad.add (k * 6)) hadb).trans q0d
            have r1 := (hb6.cell (p := ⟨(ad.add (k * 6)).block, (ad.add (k * 6)).off + 1, none⟩) hadb).trans q1d
            have r2 := (hb6.cell (p := ⟨(ad.add (k * 6)).block, (ad.add (k * 6)).off + 2, none⟩) hadb).trans q2d
            have r3 := (hb6.cell (p := ⟨(ad.add (k * 6)).block, (ad.add (k * 6)).off + 3, none⟩) hadb).trans q3d
            have r4 := (hb6.cell (p := ⟨(ad.add (k * 6)).block, (ad.add (k * 6)).off + 4, none⟩) hadb).trans q4d
            have r5 := (hb6.cell (p := ⟨(ad.add (k * 6)).block, (ad.add (k * 6)).off + 5, none⟩) hadb).trans q5d
            have t0 := hO6.at 1 _ rfl
            have t1 := hO6.free 1 _ rfl
            refine hK.out _ _ ⟨k1, r0, r1, r2, r3, r4, r5⟩ (fun hHeld => ?_)
            clear hK K
            refine wpAnyH_take (i := 9) (oi := { dst := some 75, op := _, type := _, pos := _, after := _, guard := _ }) (v := .pointer (some ⟨w.heap.size + 1 + 1, 1, none⟩)) rfl (by kernel_rfl) (by kernel_rfl) (by kernel_rfl) (fun _ _ _ h => h) (Or.inl ⟨by rfl, by (intro w hSw; (try dsimp only at hSw); first | (go_simp; done) | (go_simp; with_reducible rfl) | (go_simp; omega) | (go_simp; simp [*]; done))⟩) (by assumption) ?_; try simp only [Act.put, List.setIfInBounds_toArray, List.set_cons_zero, List.set_cons_succ]
            refine wpAnyH_ready (rs := [10]) (by kernel_rfl) (by simp) ?_
            refine AllReadyH.cons (o := { dst := none, op := _, type := _, pos := _, after := _, guard := _ }) rfl (fun K hK => ?_) AllReadyH.nil
            go_simp
            refine hK.out _ _ ⟨cell_other' k1 (c := w.heap.size + 1 + 1) (j := 1) n0 _, cell_other' r0 (c := w.heap.size + 1 + 1) (j := 1) n1 _, cell_other' r1 (c := w.heap.size + 1 + 1) (j := 1) n1 _, cell_other' r2 (c := w.heap.size + 1 + 1) (j := 1) n1 _, cell_other' r3 (c := w.heap.size + 1 + 1) (j := 1) n1 _, cell_other' r4 (c := w.heap.size + 1 + 1) (j := 1) n1 _, cell_other' r5 (c := w.heap.size + 1 + 1) (j := 1) n1 _⟩ (fun hHeld => ?_)
            clear hK K
            refine wpAnyH_done (by kernel_rfl) ?_ _
            have hS6 := Kd.S_far (p := ⟨w.heap.size + 1 + 1, 1, none⟩) (Kd.S_step hSd (fun k hk _ => hb6.block k hk.1)) (fun k hk => hk.2) (.slice A6 (k + 1) c6)
            have hB6 := Below.setCell (p := ⟨w.heap.size + 1 + 1, 1, none⟩) (Below.trans hBd (hb6.mono (by omega))) (show w.heap.size ≤ w.heap.size + 1 + 1 by omega) (.slice A6 (k + 1) c6)
            go_wp2_with fail
            go_roundw
            case rel => exact ⟨k + 1, _, hlt, by go_num, by rw [htk.out]; exact R_elder hR6 (show w.heap.size + 1 + 1 < bb by omega) _, hS6, hP6.other (by omega) _, hQ6.other (by omega) _, hO6.set 1 _ (by simp), by simp; omega, hB6⟩
            case measure => simp [intOf]; omega
          · go_simp
            refine hK.out _ _ ⟨cell_alloc' p1d _, cell_alloc' q0d _, cell_alloc' q1d _, cell_alloc' q2d _, cell_alloc' q3d _, cell_alloc' q4d _, cell_alloc' q5d _⟩ (fun hHeld => ?_)
            clear hK K
            refine wpAnyH_ready (rs := [1]) (by kernel_rfl) (by simp) ?_
            refine AllReadyH.cons (o := { dst := some 67, op := _, type := _, pos := _, after := _, guard := _ }) rfl (fun K hK => ?_) AllReadyH.nil
            go_simp
            refine hK.out _ _ ⟨cell_alloc' p1d _, cell_alloc' q0d _, cell_alloc' q1d _, cell_alloc' q2d _, cell_alloc' q3d _, cell_alloc' q4d _, cell_alloc' q5d _⟩ (fun hHeld => ?_)
            clear hK K
            refine wpAnyH_ready (rs := [8]) (by kernel_rfl) (by simp) ?_
            refine AllReadyH.cons (o := { dst := some 74, op := _, type := _, pos := _, after := _, guard := _ }) rfl (fun K hK => ?_) AllReadyH.nil
            refine entry_step bb (by rfl) (.tmp 67) (.tmp 73) (by rfl) (.slice A5 k c5) (es.take k) x (fun _ => True) (by rfl) (by rfl) (fun _ _ => trivial) hRd (by simp; omega) (by rw [hlk.out]; omega) ?_
            intro v1 w6 hR6 hb6 hg6
            obtain ⟨A6, c6, h6⟩ := Kd.R_slice hR6
            rw [List.length_append, hlk.out] at h6
            subst h6
            have hz6 := hb6.size
            simp at hz6
            have hP6 := hPd.below hb6 (by omega)
            have hQ6 := hQd.below hb6 (by omega)
            have hO6 := hOd.below hb6 (by omega)
            have k1 := hP6.at 1 _ rfl
            have hadb : (ad.add (k * 6)).block < bb := by omega
            have r0 := (hb6.cell (p := ad.add (k * 6)) hadb).trans q0d
            have r1 := (hb6.cell (p := ⟨(ad.add (k * 6)).block, (ad.add (k * 6)).off + 1, none⟩) hadb).trans q1d
            have r2 := (hb6.cell (p := ⟨(ad.add (k * 6)).block, (ad.add (k * 6)).off + 2, none⟩) hadb).trans q2d
            have r3 := (hb6.cell (p := ⟨(ad.add (k * 6)).block, (ad.add (k * 6)).off + 3, none⟩) hadb).trans q3d
            have r4 := (hb6.cell (p := ⟨(ad.add (k * 6)).block, (ad.add (k * 6)).off + 4, none⟩) hadb).trans q4d
            have r5 := (hb6.cell (p := ⟨(ad.add (k * 6)).block, (ad.add (k * 6)).off + 5, none⟩) hadb).trans q5d
            have t0 := hO6.at 1 _ rfl
            have t1 := hO6.free 1 _ rfl
            refine hK.out _ _ ⟨k1, r0, r1, r2, r3, r4, r5⟩ (fun hHeld => ?_)
            clear hK K
            refine wpAnyH_take (i := 9) (oi := { dst := some 75, op := _, type := _, pos := _, after := _, guard := _ }) (v := .pointer (some ⟨w.heap.size + 1 + 1, 1, none⟩)) rfl (by kernel_rfl) (by kernel_rfl) (by kernel_rfl) (fun _ _ _ h => h) (Or.inl ⟨by rfl, by (intro w hSw; (try dsimp only at hSw); first | (go_simp; done) | (go_simp; with_reducible rfl) | (go_simp; omega) | (go_simp; simp [*]; done))⟩) (by assumption) ?_; try simp only [Act.put, List.setIfInBounds_toArray, List.set_cons_zero, List.set_cons_succ]
            refine wpAnyH_ready (rs := [10]) (by kernel_rfl) (by simp) ?_
            refine AllReadyH.cons (o := { dst := none, op := _, type := _, pos := _, after := _, guard := _ }) rfl (fun K hK => ?_) AllReadyH.nil
            go_simp
            refine hK.out _ _ ⟨cell_other' k1 (c := w.heap.size + 1 + 1) (j := 1) n0 _, cell_other' r0 (c := w.heap.size + 1 + 1) (j := 1) n1 _, cell_other' r1 (c := w.heap.size + 1 + 1) (j := 1) n1 _, cell_other' r2 (c := w.heap.size + 1 + 1) (j := 1) n1 _, cell_other' r3 (c := w.heap.size + 1 + 1) (j := 1) n1 _, cell_other' r4 (c := w.heap.size + 1 + 1) (j := 1) n1 _, cell_other' r5 (c := w.heap.size + 1 + 1) (j := 1) n1 _⟩ (fun hHeld => ?_)
            clear hK K
            refine wpAnyH_done (by kernel_rfl) ?_ _
            have hS6 := Kd.S_far (p := ⟨w.heap.size + 1 + 1, 1, none⟩) (Kd.S_step hSd (fun k hk _ => hb6.block k hk.1)) (fun k hk => hk.2) (.slice A6 (k + 1) c6)
            have hB6 := Below.setCell (p := ⟨w.heap.size + 1 + 1, 1, none⟩) (Below.trans hBd (hb6.mono (by omega))) (show w.heap.size ≤ w.heap.size + 1 + 1 by omega) (.slice A6 (k + 1) c6)
            go_wp2_with fail
            go_roundw
            case rel => exact ⟨k + 1, _, hlt, by go_num, by rw [htk.out]; exact R_elder hR6 (show w.heap.size + 1 + 1 < bb by omega) _, hS6, hP6.other (by omega) _, hQ6.other (by omega) _, hO6.set 1 _ (by simp), by simp; omega, hB6⟩
            case measure => simp [intOf]; omega
        · obtain rfl : k = es.length := by omega
          rw [List.take_length] at hR
          obtain ⟨A5, c5, rfl⟩ := Kd.R_slice hR
          have i1 : ¬ (es.length : Int) < (es.length : Int) := by omega
          have o0 := hO.at 0 _ rfl
          have o1 := hO.at 1 _ rfl
          have q0 := hQ.at 0 _ rfl
          have q1 := hQ.at 1 _ rfl
          have q2 := hQ.free 0 _ rfl
          have q3 := hQ.free 1 _ rfl
          go_wp2_with fail
          refine bodyPost_ret (v := .agg #[.slice Ab bs.length cb, .slice A5 es.length c5]) (by simp [results, Tryd.results56, go_sem, *]) rfl ?_
          refine ⟨_, _, rfl, ?_, ?_, (by repeat (first | exact Below.refl _ _ | apply below_alloc | apply pw_below_drewN | apply below_drew1 | (refine Below.setCell ?_ (by first | (simp; done) | (simp; omega) | omega) _) | exact hB))⟩
          · exact Kd.S_lower (S_elder (S_elder (Kd.S_mono hS (fun _ _ => trivial)) (show w.heap.size + 1 < w.heap.size + 1 + 1 + 1 by omega) _) (show w.heap.size + 1 < w.heap.size + 1 + 1 + 1 by omega) _) (by omega)
          · exact Kd.R_lower (R_elder (R_elder hR (show w.heap.size + 1 < bb by omega) _) (show w.heap.size + 1 < bb by omega) _) (by omega)
end Go.Proofs.YtijdghplfhfpaaaDoor.H

/- Boxes: box.apply: no such box; Append. -/
namespace Go.Proofs.YtijdghplfhfpaaaDoor.H
open Go.RowKit Go.Proofs.YtijdghplfhfpaaaDoorW.PrintWords Go.Proofs.YtijdghplfhfpaaaDoorW.PrintLast Go.Proofs.YtijdghplfhfpaaaDoor.U
set_option linter.unusedVariables false
set_option linter.unusedSimpArgs false
theorem entV_none {bs : List ABox} {es : List AEntry} {x : AEntry} (h6 : ¬ x.kind = 6) (h1 : ¬ x.kind = 1) (hf : findG x.box bs 0 < 0) : entV bs es x = (7, bs, es) := by
  rw [entV, if_neg h6, if_neg h1, if_pos hf]
theorem entV_mail {bs : List ABox} {es : List AEntry} {x : AEntry} {i : Nat} (h6 : ¬ x.kind = 6) (h1 : ¬ x.kind = 1) (hf : findG x.box bs 0 = (i : Int)) : entV bs es x = ((mailV bs i x).1, (mailV bs i x).2, es) := by
  rw [entV, if_neg h6, if_neg h1, if_neg (by omega), hf, Int.toNat_natCast]
set_option maxHeartbeats 2000000 in
set_option maxRecDepth 100000 in
theorem apply_none (pb : Nat) (k : Int) (bx : ByteArray) (u f : Int) (to_ tx : ByteArray) (base : Nat) (bs : List ABox) (es : List AEntry) (w : World) (h : StB w base pb bs es) (hk6 : ¬ k = 6) (hk1 : ¬ k = 1) (hf : findG bx bs 0 < 0) :
    Calls Tryd.prog 55 #[.pointer (some ⟨pb, 0, none⟩), .agg #[.int .i64 k, .string bx, .int .i64 u, .int .i64 f, .string to_, .string tx]] w fun e w' => e = .returned (.int .i64 (entV bs es ⟨k, bx, u, f, to_, tx⟩).1) ∧ StB w' base pb (entV bs es ⟨k, bx, u, f, to_, tx⟩).2.1 (entV bs es ⟨k, bx, u, f, to_, tx⟩).2.2 ∧ Below base w w' := by
  have hbase := h.bases
  have hpb := h.lt
  rw [entV_none (x := ⟨k, bx, u, f, to_, tx⟩) hk6 hk1 hf]
  have b6 : (k == 6) = false := by rw [beq_eq_false_iff_ne]; exact hk6
  have b1 : (k == 1) = false := by rw [beq_eq_false_iff_ne]; exact hk1
  obtain ⟨fi, hfi⟩ : ∃ fi, findG bx bs 0 = fi := ⟨_, rfl⟩
  rw [hfi] at hf
  clear hk6 hk1
  obtain ⟨vB, vS, hk, hp, hS, hE⟩ := h
  obtain ⟨A, c, rfl, hc, hC⟩ := Kd.S_reads hS
  obtain ⟨A3, c3, rfl⟩ := Kd.R_slice hE
  have hEl := Kd.R_lt hE
  have hSl := Kd.S_lt hS
  obtain ⟨W1, hW1⟩ : ∃ W1 : World, W1 = w.alloc (.cells #[.int .i64 k, .string bx, .int .i64 u, .int .i64 f, .string to_, .string tx] 40) := ⟨_, rfl⟩
  have hX1 : Blk W1 w.heap.size [.int .i64 k, .string bx, .int .i64 u, .int .i64 f, .string to_, .string tx] := by rw [hW1]; exact Blk.made w _ _
  have hXT : W1.heap[w.heap.size]? = some (.cells #[.int .i64 k, .string bx, .int .i64 u, .int .i64 f, .string to_, .string tx] 40 (0, 0)) := by rw [hW1]; show (w.heap.push _)[w.heap.size]? = _; rw [Array.getElem?_push_size]
  have hb1 : Below w.heap.size w W1 := by rw [hW1]; exact (by repeat (first | exact Below.refl _ _ | apply below_alloc | apply pw_below_drewN | apply below_drew1 | (refine Below.setCell ?_ (by first | (simp; done) | (simp; omega) | omega) _) ))
  have hk1 := hk.below hb1 hpb
  have hz1 : W1.heap.size = w.heap.size + 1 := by rw [hW1]; simp
  have hC1 := Kd.C_below hC hb1
  have HF := fun W hr => find_calls A c bs bx W hr
  have d0 := cell_drew' (hk1.at 0 _ rfl)
  have d1 := cell_drew' (hX1.at 1 _ rfl)
  replace hW1 := Lib.hid hW1
  simp only [hfi] at HF
  clear hfi
  replace HF := Lib.hid HF
  go_enter Tryd.func55, Tryd.ntmps55
  go_wp2_with fail
  rw [← hW1.out]
  go_region_held3 (fun w' => w'.cell? ⟨pb, 0, none⟩ = some (.slice A bs.length c) ∧ w'.cell? ⟨w.heap.size, 1, none⟩ = some (.string bx)) (first | exact ⟨d0, d1⟩ | exact ⟨k0, k1⟩ | go_keep) ((go_at_call 47; refine (HF.out _ (Kd.C_below hC1 (by repeat (first | exact Below.refl _ _ | apply below_alloc | apply pw_below_drewN | apply below_drew1 | (refine Below.setCell ?_ (by first | (simp; done) | (simp; omega) | omega) _) )))).mono ?_; rintro e w5 ⟨rfl, hb5⟩; have k0 := (hb5.cell (lt_of_cell' d0)).trans d0; have k1 := (hb5.cell (lt_of_cell' d1)).trans d1))
  have hb6 : Below W1.heap.size W1 w5 := Below.trans (show Below W1.heap.size W1 W1.drew from (by repeat (first | exact Below.refl _ _ | apply below_alloc | apply pw_below_drewN | apply below_drew1 | (refine Below.setCell ?_ (by first | (simp; done) | (simp; omega) | omega) _) ))) (hb5.mono (by simp))
  have hz5 := hb6.size
  have hX5 := hX1.below hb6 (by omega)
  have hXT5 := (hb6.block w.heap.size (by omega)).trans hXT
  clear hXT
  have hk5 := hk1.below hb6 (by omega)
  have hS5 := Kd.S_below (Kd.S_below hS hb1) hb6
  have hE5 := Kd.R_below (Kd.R_below hE hb1) hb6
  have hB5 := (hb1.mono hbase).trans (hb6.mono (by omega))
  clear hX1 hk1 hC1 hb5 d0 d1 k0 k1 hk hS hE hC
  have m0 := hk5.at 0 _ rfl
  have m1 := hk5.at 1 _ rfl
  have x0 := hX5.at 0 _ rfl
  have x1 := hX5.at 1 _ rfl
  have x2 := hX5.at 2 _ rfl
  have x3 := hX5.at 3 _ rfl
  have x4 := hX5.at 4 _ rfl
  have x5 := hX5.at 5 _ rfl
  go_wp2_with fail
  go_ret
  exact ⟨(by first | rfl | (simp; done) | (simp [*]; done) | (rw [if_pos (by omega)]; first | rfl | (simp; done)) | (rw [if_neg (by omega)]; first | rfl | (simp; done)) | (simp; omega)), ⟨_, _, hk5, hp, hS5, hE5⟩, hB5⟩
set_option maxHeartbeats 2000000 in
set_option maxRecDepth 100000 in
theorem apply_append (pb i : Nat) (bx : ByteArray) (u f : Int) (to_ tx : ByteArray) (base : Nat) (bs : List ABox) (es : List AEntry) (w : World) (h : StB w base pb bs es) (hinv : InvS bs es) (htx : tx.size ≤ 2000) (hfi : findG bx bs 0 = (i : Int)) (hi : i < bs.length) :
    Calls Tryd.prog 55 #[.pointer (some ⟨pb, 0, none⟩), .agg #[.int .i64 2, .string bx, .int .i64 u, .int .i64 f, .string to_, .string tx]] w fun e w' => e = .returned (.int .i64 (entV bs es ⟨2, bx, u, f, to_, tx⟩).1) ∧ StB w' base pb (entV bs es ⟨2, bx, u, f, to_, tx⟩).2.1 (entV bs es ⟨2, bx, u, f, to_, tx⟩).2.2 ∧ Below base w w' := by
  have hbase := h.bases
  have hpb := h.lt
  have hm : mailV bs i ⟨2, bx, u, f, to_, tx⟩ = addV bs i f tx := if_pos rfl
  rw [entV_mail (x := ⟨2, bx, u, f, to_, tx⟩) (by show ¬ ((2 : Int) = 6); decide) (by show ¬ ((2 : Int) = 1); decide) hfi, hm]
  have HA := Lib.hid (fun W h => add_calls pb i f tx base bs es W h hinv hi htx)
  have i0 : (0 : Int) ≤ (i : Int) := by omega
  have i1 : ¬ (i : Int) < 0 := by omega
  obtain ⟨vB, vS, hk, hp, hS, hE⟩ := h
  obtain ⟨A, c, rfl, hc, hC⟩ := Kd.S_reads hS
  obtain ⟨A3, c3, rfl⟩ := Kd.R_slice hE
  have hEl := Kd.R_lt hE
  have hSl := Kd.S_lt hS
  obtain ⟨W1, hW1⟩ : ∃ W1 : World, W1 = w.alloc (.cells #[.int .i64 2, .string bx, .int .i64 u, .int .i64 f, .string to_, .string tx] 40) := ⟨_, rfl⟩
  have hX1 : Blk W1 w.heap.size [.int .i64 2, .string bx, .int .i64 u, .int .i64 f, .string to_, .string tx] := by rw [hW1]; exact Blk.made w _ _
  have hXT : W1.heap[w.heap.size]? = some (.cells #[.int .i64 2, .string bx, .int .i64 u, .int .i64 f, .string to_, .string tx] 40 (0, 0)) := by rw [hW1]; show (w.heap.push _)[w.heap.size]? = _; rw [Array.getElem?_push_size]
  have hb1 : Below w.heap.size w W1 := by rw [hW1]; exact (by repeat (first | exact Below.refl _ _ | apply below_alloc | apply pw_below_drewN | apply below_drew1 | (refine Below.setCell ?_ (by first | (simp; done) | (simp; omega) | omega) _) ))
  have hk1 := hk.below hb1 hpb
  have hz1 : W1.heap.size = w.heap.size + 1 := by rw [hW1]; simp
  have hC1 := Kd.C_below hC hb1
  have HF := fun W hr => find_calls A c bs bx W hr
  have d0 := cell_drew' (hk1.at 0 _ rfl)
  have d1 := cell_drew' (hX1.at 1 _ rfl)
  replace hW1 := Lib.hid hW1
  simp only [hfi] at HF
  clear hfi hm
  replace HF := Lib.hid HF
  go_enter Tryd.func55, Tryd.ntmps55
  go_wp2_with fail
  rw [← hW1.out]
  go_region_held3 (fun w' => w'.cell? ⟨pb, 0, none⟩ = some (.slice A bs.length c) ∧ w'.cell? ⟨w.heap.size, 1, none⟩ = some (.string bx)) (first | exact ⟨d0, d1⟩ | exact ⟨k0, k1⟩ | go_keep) ((go_at_call 47; refine (HF.out _ (Kd.C_below hC1 (by repeat (first | exact Below.refl _ _ | apply below_alloc | apply pw_below_drewN | apply below_drew1 | (refine Below.setCell ?_ (by first | (simp; done) | (simp; omega) | omega) _) )))).mono ?_; rintro e w5 ⟨rfl, hb5⟩; have k0 := (hb5.cell (lt_of_cell' d0)).trans d0; have k1 := (hb5.cell (lt_of_cell' d1)).trans d1))
  have hb6 : Below W1.heap.size W1 w5 := Below.trans (show Below W1.heap.size W1 W1.drew from (by repeat (first | exact Below.refl _ _ | apply below_alloc | apply pw_below_drewN | apply below_drew1 | (refine Below.setCell ?_ (by first | (simp; done) | (simp; omega) | omega) _) ))) (hb5.mono (by simp))
  have hz5 := hb6.size
  have hX5 := hX1.below hb6 (by omega)
  have hXT5 := (hb6.block w.heap.size (by omega)).trans hXT
  clear hXT
  have hk5 := hk1.below hb6 (by omega)
  have hS5 := Kd.S_below (Kd.S_below hS hb1) hb6
  have hE5 := Kd.R_below (Kd.R_below hE hb1) hb6
  have hB5 := (hb1.mono hbase).trans (hb6.mono (by omega))
  clear hX1 hk1 hC1 hb5 d0 d1 k0 k1 hk hS hE hC
  have m0 := hk5.at 0 _ rfl
  have m1 := hk5.at 1 _ rfl
  have x0 := hX5.at 0 _ rfl
  have x1 := hX5.at 1 _ rfl
  have x2 := hX5.at 2 _ rfl
  have x3 := hX5.at 3 _ rfl
  have x4 := hX5.at 4 _ rfl
  have x5 := hX5.at 5 _ rfl
  have hst : StB w5 base pb bs es := ⟨_, _, hk5, hp, hS5, hE5⟩
  go_wp2_with fail
  refine (HA.out _ hst).mono ?_
  rintro e w6 ⟨rfl, hst6, hb7⟩
  go_wp2_with fail
  go_ret
  exact ⟨(by first | rfl | (simp; done) | (simp [*]; done) | (rw [if_pos (by omega)]; first | rfl | (simp; done)) | (rw [if_neg (by omega)]; first | rfl | (simp; done)) | (simp; omega)), hst6, hB5.trans hb7⟩
end Go.Proofs.YtijdghplfhfpaaaDoor.H

/- Boxes: box.apply: Expunge. -/
namespace Go.Proofs.YtijdghplfhfpaaaDoor.H
open Go.RowKit Go.Proofs.YtijdghplfhfpaaaDoorW.PrintWords Go.Proofs.YtijdghplfhfpaaaDoorW.PrintLast Go.Proofs.YtijdghplfhfpaaaDoor.U
set_option linter.unusedVariables false
set_option linter.unusedSimpArgs false
theorem mailsAt_of {bs : List ABox} {i : Nat} {nm : ByteArray} {nx : Int} {l : List AMail} (hi : i < bs.length) (hb : bs[i] = (nm, nx, l)) : mailsAt bs i = l := by
  unfold mailsAt; rw [List.getElem?_eq_getElem hi, hb]
theorem putMails_of {bs : List ABox} {i : Nat} {nm : ByteArray} {nx : Int} {l : List AMail} (hi : i < bs.length) (hb : bs[i] = (nm, nx, l)) (l2 : List AMail) : putMails bs i l2 = bs.set i (nm, nx, l2) := by
  unfold putMails; rw [List.getElem?_eq_getElem hi, hb]
set_option maxHeartbeats 2000000 in
set_option maxRecDepth 100000 in
theorem apply_expunge (pb i : Nat) (bx : ByteArray) (u f : Int) (to_ tx : ByteArray) (base : Nat) (bs : List ABox) (es : List AEntry) (w : World) (h : StB w base pb bs es) (hinv : InvS bs es) (hfi : findG bx bs 0 = (i : Int)) (hi : i < bs.length) :
    Calls Tryd.prog 55 #[.pointer (some ⟨pb, 0, none⟩), .agg #[.int .i64 4, .string bx, .int .i64 u, .int .i64 f, .string to_, .string tx]] w fun e w' => e = .returned (.int .i64 (entV bs es ⟨4, bx, u, f, to_, tx⟩).1) ∧ StB w' base pb (entV bs es ⟨4, bx, u, f, to_, tx⟩).2.1 (entV bs es ⟨4, bx, u, f, to_, tx⟩).2.2 ∧ Below base w w' := by
  have hbase := h.bases
  have hpb := h.lt
  obtain ⟨nm, nx, l, hb⟩ : ∃ nm nx l, bs[i] = (nm, nx, l) := ⟨_, _, _, rfl⟩
  have hm : mailV bs i ⟨4, bx, u, f, to_, tx⟩ = (0, bs.set i (nm, nx, l.filter keepM)) := by
    rw [← putMails_of hi hb, mailV, if_neg (by show ¬ ((4 : Int) = 2); decide), if_pos rfl, mailsAt_of hi hb]
  rw [entV_mail (x := ⟨4, bx, u, f, to_, tx⟩) (by show ¬ ((4 : Int) = 6); decide) (by show ¬ ((4 : Int) = 1); decide) hfi, hm]
  have hgd : GoodB (nm, nx, l) := by rw [← hb]; exact hinv.2.2 _ (List.getElem_mem hi)
  obtain ⟨g1, g2, g3, g4, g5⟩ := hgd
  simp only at g1 g2 g3 g4 g5
  have hfl : ∀ m ∈ l, 0 ≤ m.flags ∧ m.flags ≤ 31 := fun m hm => by obtain ⟨_, _, a, b, _⟩ := mails_mem _ _ g5 m hm; exact ⟨a, b⟩
  have i0 : (0 : Int) ≤ (i : Int) := by omega
  have i1 : ¬ (i : Int) < 0 := by omega
  have i2 : (i : Int) < (bs.length : Int) := by omega
  obtain ⟨vB, vS, hk, hp, hS, hE⟩ := h
  obtain ⟨A, c, rfl, hc, hC⟩ := Kd.S_reads hS
  obtain ⟨A3, c3, rfl⟩ := Kd.R_slice hE
  have hEl := Kd.R_lt hE
  have hSl := Kd.S_lt hS
  obtain ⟨W1, hW1⟩ : ∃ W1 : World, W1 = w.alloc (.cells #[.int .i64 4, .string bx, .int .i64 u, .int .i64 f, .string to_, .string tx] 40) := ⟨_, rfl⟩
  have hX1 : Blk W1 w.heap.size [.int .i64 4, .string bx, .int .i64 u, .int .i64 f, .string to_, .string tx] := by rw [hW1]; exact Blk.made w _ _
  have hXT : W1.heap[w.heap.size]? = some (.cells #[.int .i64 4, .string bx, .int .i64 u, .int .i64 f, .string to_, .string tx] 40 (0, 0)) := by rw [hW1]; show (w.heap.push _)[w.heap.size]? = _; rw [Array.getElem?_push_size]
  have hb1 : Below w.heap.size w W1 := by rw [hW1]; exact (by repeat (first | exact Below.refl _ _ | apply below_alloc | apply pw_below_drewN | apply below_drew1 | (refine Below.setCell ?_ (by first | (simp; done) | (simp; omega) | omega) _) ))
  have hk1 := hk.below hb1 hpb
  have hz1 : W1.heap.size = w.heap.size + 1 := by rw [hW1]; simp
  have hC1 := Kd.C_below hC hb1
  have HF := fun W hr => find_calls A c bs bx W hr
  have d0 := cell_drew' (hk1.at 0 _ rfl)
  have d1 := cell_drew' (hX1.at 1 _ rfl)
  replace hW1 := Lib.hid hW1
  simp only [hfi] at HF
  clear hfi hm
  replace HF := Lib.hid HF
  go_enter Tryd.func55, Tryd.ntmps55
  go_wp2_with fail
  rw [← hW1.out]
  go_region_held3 (fun w' => w'.cell? ⟨pb, 0, none⟩ = some (.slice A bs.length c) ∧ w'.cell? ⟨w.heap.size, 1, none⟩ = some (.string bx)) (first | exact ⟨d0, d1⟩ | exact ⟨k0, k1⟩ | go_keep) ((go_at_call 47; refine (HF.out _ (Kd.C_below hC1 (by repeat (first | exact Below.refl _ _ | apply below_alloc | apply pw_below_drewN | apply below_drew1 | (refine Below.setCell ?_ (by first | (simp; done) | (simp; omega) | omega) _) )))).mono ?_; rintro e w5 ⟨rfl, hb5⟩; have k0 := (hb5.cell (lt_of_cell' d0)).trans d0; have k1 := (hb5.cell (lt_of_cell' d1)).trans d1))
  have hb6 : Below W1.heap.size W1 w5 := Below.trans (show Below W1.heap.size W1 W1.drew from (by repeat (first | exact Below.refl _ _ | apply below_alloc | apply pw_below_drewN | apply below_drew1 | (refine Below.setCell ?_ (by first | (simp; done) | (simp; omega) | omega) _) ))) (hb5.mono (by simp))
  have hz5 := hb6.size
  have hX5 := hX1.below hb6 (by omega)
  have hXT5 := (hb6.block w.heap.size (by omega)).trans hXT
  clear hXT
  have hk5 := hk1.below hb6 (by omega)
  have hS5 := Kd.S_below (Kd.S_below hS hb1) hb6
  have hE5 := Kd.R_below (Kd.R_below hE hb1) hb6
  have hB5 := (hb1.mono hbase).trans (hb6.mono (by omega))
  clear hX1 hk1 hC1 hb5 d0 d1 k0 k1 hk hS hE hC
  have m0 := hk5.at 0 _ rfl
  have m1 := hk5.at 1 _ rfl
  have x0 := hX5.at 0 _ rfl
  have x1 := hX5.at 1 _ rfl
  have x2 := hX5.at 2 _ rfl
  have x3 := hX5.at 3 _ rfl
  have x4 := hX5.at 4 _ rfl
  have x5 := hX5.at 5 _ rfl
  obtain ⟨g, cap, hAc, hgb, hgl, cells, hgc⟩ := Kd.S_form hS5 (by omega)
  injection hAc with hAc1 _ hAc2
  subst hAc1
  subst hAc2
  obtain ⟨oki, vM, y0, y1, y2, f1, f2, hR, hoki, hH⟩ := box_lend hS5 hi hb
  obtain ⟨Am, cm, rfl⟩ := Kd.R_slice hR
  have hng : g ≠ pb := fun he => (Kd.S_R hS5).1 g (by simp [Value.ownBlock]) he
  have hng2 : pb ≠ g := Ne.symm hng
  have hgx : g < w.heap.size := hSl g (by simp [Value.ownBlock])
  have ea : (⟨g, 0, none⟩ : Addr).add (i * 3) = ⟨g, i * 3, none⟩ := add_plain _ _
  have hgo : some g ≠ (Value.slice Am l.length cm).ownBlock := fun he => (hoki g (hR.1 g he.symm)).2 rfl
  have hpo : some pb ≠ (Value.slice Am l.length cm).ownBlock := fun he => (hoki pb (hR.1 pb he.symm)).1 rfl
  have HD := Lib.hid (fun W hR hbs => deleteFunc_calls base oki (.slice Am l.length cm) l W hR hbs hfl g4)
  go_wp2_with fail
  have y2d := cell_drew' y2
  have hRd := Kd.R_drew hR
  have hkd := hk5.drew
  refine wp_region_held_drew (S := fun w' => w'.cell? ⟨pb, 0, none⟩ = some (.slice (some ⟨g, 0, none⟩) bs.length c)) (by kernel_rfl) ?_ (fun hHeld => ?_)
  · exact hkd.at 0 _ rfl
  refine wpAnyH_take (i := 0) (oi := { dst := some 84, op := _, type := _, pos := _, after := _, guard := _ }) (v := .pointer (some ⟨pb, 0, none⟩)) rfl (by kernel_rfl) (by kernel_rfl) (by kernel_rfl) (fun _ _ _ h => h) (Or.inl ⟨by rfl, by (intro w hSw; (try dsimp only at hSw); first | (go_simp; done) | (go_simp; with_reducible rfl) | (go_simp; omega) | (go_simp; simp [*]; done))⟩) (by assumption) ?_; try simp only [Act.put, List.setIfInBounds_toArray, List.set_cons_zero, List.set_cons_succ]
  refine wpAnyH_take (i := 1) (oi := { dst := some 85, op := _, type := _, pos := _, after := _, guard := _ }) (v := .pointer (some ⟨pb, 0, none⟩)) rfl (by kernel_rfl) (by kernel_rfl) (by kernel_rfl) (fun _ _ _ h => h) (Or.inl ⟨by rfl, by (intro w hSw; (try dsimp only at hSw); first | (go_simp; done) | (go_simp; with_reducible rfl) | (go_simp; omega) | (go_simp; simp [*]; done))⟩) (by assumption) ?_; try simp only [Act.put, List.setIfInBounds_toArray, List.set_cons_zero, List.set_cons_succ]
  refine wpAnyH_take (i := 2) (oi := { dst := some 86, op := _, type := _, pos := _, after := _, guard := _ }) (v := .pointer (some ⟨pb, 0, none⟩)) rfl (by kernel_rfl) (by kernel_rfl) (by kernel_rfl) (fun _ _ _ h => h) (Or.inl ⟨by rfl, by (intro w hSw; (try dsimp only at hSw); first | (go_simp; done) | (go_simp; with_reducible rfl) | (go_simp; omega) | (go_simp; simp [*]; done))⟩) (by assumption) ?_; try simp only [Act.put, List.setIfInBounds_toArray, List.set_cons_zero, List.set_cons_succ]
  refine wpAnyH_take (i := 3) (oi := { dst := some 87, op := _, type := _, pos := _, after := _, guard := _ }) (v := .slice (some ⟨g, 0, none⟩) bs.length c) rfl (by kernel_rfl) (by kernel_rfl) (by kernel_rfl) (fun _ _ _ h => h) (Or.inl ⟨by rfl, by (intro w hSw; (try dsimp only at hSw); first | (go_simp; done) | (go_simp; with_reducible rfl) | (go_simp; omega) | (go_simp; simp [*]; done))⟩) (by assumption) ?_; try simp only [Act.put, List.setIfInBounds_toArray, List.set_cons_zero, List.set_cons_succ]
  refine wpAnyH_take (i := 4) (oi := { dst := some 88, op := _, type := _, pos := _, after := _, guard := _ }) (v := .int .i64 i) rfl (by kernel_rfl) (by kernel_rfl) (by kernel_rfl) (fun _ _ _ h => h) (Or.inl ⟨by rfl, by (intro w hSw; (try dsimp only at hSw); first | (go_simp; done) | (go_simp; with_reducible rfl) | (go_simp; omega) | (go_simp; simp [*]; done))⟩) (by assumption) ?_; try simp only [Act.put, List.setIfInBounds_toArray, List.set_cons_zero, List.set_cons_succ]
  refine wpAnyH_take (i := 5) (oi := { dst := some 89, op := _, type := _, pos := _, after := _, guard := _ }) (v := .pointer (some ⟨pb, 0, none⟩)) rfl (by kernel_rfl) (by kernel_rfl) (by kernel_rfl) (fun _ _ _ h => h) (Or.inl ⟨by rfl, by (intro w hSw; (try dsimp only at hSw); first | (go_simp; done) | (go_simp; with_reducible rfl) | (go_simp; omega) | (go_simp; simp [*]; done))⟩) (by assumption) ?_; try simp only [Act.put, List.setIfInBounds_toArray, List.set_cons_zero, List.set_cons_succ]
  refine wpAnyH_take (i := 6) (oi := { dst := some 90, op := _, type := _, pos := _, after := _, guard := _ }) (v := .pointer (some ⟨pb, 0, none⟩)) rfl (by kernel_rfl) (by kernel_rfl) (by kernel_rfl) (fun _ _ _ h => h) (Or.inl ⟨by rfl, by (intro w hSw; (try dsimp only at hSw); first | (go_simp; done) | (go_simp; with_reducible rfl) | (go_simp; omega) | (go_simp; simp [*]; done))⟩) (by assumption) ?_; try simp only [Act.put, List.setIfInBounds_toArray, List.set_cons_zero, List.set_cons_succ]
  refine wpAnyH_take (i := 7) (oi := { dst := some 91, op := _, type := _, pos := _, after := _, guard := _ }) (v := .pointer (some ⟨pb, 0, none⟩)) rfl (by kernel_rfl) (by kernel_rfl) (by kernel_rfl) (fun _ _ _ h => h) (Or.inl ⟨by rfl, by (intro w hSw; (try dsimp only at hSw); first | (go_simp; done) | (go_simp; with_reducible rfl) | (go_simp; omega) | (go_simp; simp [*]; done))⟩) (by assumption) ?_; try simp only [Act.put, List.setIfInBounds_toArray, List.set_cons_zero, List.set_cons_succ]
  refine wpAnyH_take (i := 8) (oi := { dst := some 92, op := _, type := _, pos := _, after := _, guard := _ }) (v := .slice (some ⟨g, 0, none⟩) bs.length c) rfl (by kernel_rfl) (by kernel_rfl) (by kernel_rfl) (fun _ _ _ h => h) (Or.inl ⟨by rfl, by (intro w hSw; (try dsimp only at hSw); first | (go_simp; done) | (go_simp; with_reducible rfl) | (go_simp; omega) | (go_simp; simp [*]; done))⟩) (by assumption) ?_; try simp only [Act.put, List.setIfInBounds_toArray, List.set_cons_zero, List.set_cons_succ]
  refine wpAnyH_take (i := 9) (oi := { dst := some 93, op := _, type := _, pos := _, after := _, guard := _ }) (v := .int .i64 i) rfl (by kernel_rfl) (by kernel_rfl) (by kernel_rfl) (fun _ _ _ h => h) (Or.inl ⟨by rfl, by (intro w hSw; (try dsimp only at hSw); first | (go_simp; done) | (go_simp; with_reducible rfl) | (go_simp; omega) | (go_simp; simp [*]; done))⟩) (by assumption) ?_; try simp only [Act.put, List.setIfInBounds_toArray, List.set_cons_zero, List.set_cons_succ]
  refine wpAnyH_take (i := 10) (oi := { dst := some 94, op := _, type := _, pos := _, after := _, guard := _ }) (v := .pointer (some ⟨g, i * 3, none⟩)) rfl (by kernel_rfl) (by kernel_rfl) (by kernel_rfl) (fun _ _ _ h => h) (Or.inl ⟨by rfl, by (intro w hSw; (try dsimp only at hSw); first | (go_simp; done) | (go_simp; with_reducible rfl) | (go_simp; omega) | (go_simp; simp [*]; done))⟩) (by assumption) ?_; try simp only [Act.put, List.setIfInBounds_toArray, List.set_cons_zero, List.set_cons_succ]
  refine wpAnyH_take (i := 11) (oi := { dst := some 95, op := _, type := _, pos := _, after := _, guard := _ }) (v := .pointer (some ⟨g, i * 3 + 2, none⟩)) rfl (by kernel_rfl) (by kernel_rfl) (by kernel_rfl) (fun _ _ _ h => h) (Or.inl ⟨by rfl, by (intro w hSw; (try dsimp only at hSw); first | (go_simp; done) | (go_simp; with_reducible rfl) | (go_simp; omega) | (go_simp; simp [*]; done))⟩) (by assumption) ?_; try simp only [Act.put, List.setIfInBounds_toArray, List.set_cons_zero, List.set_cons_succ]
  refine wpAnyH_ready (rs := [12]) (by kernel_rfl) (by simp) ?_
  refine AllReadyH.cons (o := { dst := some 96, op := _, type := _, pos := _, after := _, guard := _ }) rfl (fun K hK => ?_) AllReadyH.nil
  go_simp
  refine hK.out _ _ (hkd.at 0 _ rfl) (fun hHeld => ?_)
  clear hK K
  refine wpAnyH_ready (rs := [13]) (by kernel_rfl) (by simp) ?_
  refine AllReadyH.cons (o := { dst := some 97, op := _, type := _, pos := _, after := _, guard := _ }) rfl (fun K hK => ?_) AllReadyH.nil
  go_simp
  go_at_call 92
  refine (HD.out _ hRd (by simp; omega)).mono ?_
  rintro e w6 ⟨v6, rfl, hR6, hg6⟩
  obtain ⟨A6, c6, rfl⟩ := Kd.R_slice hR6
  have hz6 := hg6.size
  simp at hz6
  have hk6 := hkd.grown hg6 hpo
  have z2 := (hg6.cell_far ⟨g, i * 3 + 2, none⟩ (by simp; omega) hgo).trans y2d
  have z4 : w6.frozen? ⟨g, i * 3 + 2, none⟩ = false := (hg6.frozen_far ⟨g, i * 3 + 2, none⟩ (by simp; omega) hgo).trans (by simpa using f2)
  simp only [Result.andThen]
  refine hK.out _ _ (hk6.at 0 _ rfl) (fun hHeld => ?_)
  clear hK K
  refine wpAnyH_take (i := 14) (oi := { dst := some 98, op := _, type := _, pos := _, after := _, guard := _ }) (v := .pointer (some ⟨g, i * 3, none⟩)) rfl (by kernel_rfl) (by kernel_rfl) (by kernel_rfl) (fun _ _ _ h => h) (Or.inl ⟨by rfl, by (intro w hSw; (try dsimp only at hSw); first | (go_simp; done) | (go_simp; with_reducible rfl) | (go_simp; omega) | (go_simp; simp [*]; done))⟩) (by assumption) ?_; try simp only [Act.put, List.setIfInBounds_toArray, List.set_cons_zero, List.set_cons_succ]
  refine wpAnyH_take (i := 15) (oi := { dst := some 99, op := _, type := _, pos := _, after := _, guard := _ }) (v := .pointer (some ⟨g, i * 3 + 2, none⟩)) rfl (by kernel_rfl) (by kernel_rfl) (by kernel_rfl) (fun _ _ _ h => h) (Or.inl ⟨by rfl, by (intro w hSw; (try dsimp only at hSw); first | (go_simp; done) | (go_simp; with_reducible rfl) | (go_simp; omega) | (go_simp; simp [*]; done))⟩) (by assumption) ?_; try simp only [Act.put, List.setIfInBounds_toArray, List.set_cons_zero, List.set_cons_succ]
  refine wpAnyH_ready (rs := [16]) (by kernel_rfl) (by simp) ?_
  refine AllReadyH.cons (o := { dst := none, op := _, type := _, pos := _, after := _, guard := _ }) rfl (fun K hK => ?_) AllReadyH.nil
  go_simp
  refine hK.out _ _ ((hk6.other (c := g) (j := i * 3 + 2) hng _).at 0 _ rfl) (fun hHeld => ?_)
  clear hK K
  refine wpAnyH_done (by kernel_rfl) ?_ _
  have hH6 := Kd.H_grown (Kd.H_drew hH) hg6 (fun k hk => hR.1 k hk)
  have hng3 : ∀ k, oki k → k ≠ g := fun k hk => (hoki k hk).2
  generalize hvv : (Value.slice A6 (l.filter keepM).length c6) = vv at *
  have h1c : vv.oneCell' = true := by rw [← hvv]; rfl
  have hS6 := box_back (box_hole2 hH6 hi h1c) (Kd.R_far (p := ⟨g, i * 3 + 2, none⟩) hR6 hng3 vv)
  have hg7 : w6.heap[g]? = some (.cells cells 77 (0, 0)) := (hg6.block g (by simp; omega) hgo).trans hgc
  have hE6 := Kd.R_mono (Kd.R_far (p := ⟨g, i * 3 + 2, none⟩) (Kd.R_types (entries_over (Kd.R_drew hE5) hRd hg6) hg7 (by decide)) (fun k hk => hk.2) vv) (fun k hk => hk.1)
  have hst : StB (w6.setCell ⟨g, i * 3 + 2, none⟩ vv) base pb (bs.set i (nm, nx, l.filter keepM)) es := ⟨_, _, hk6.other (c := g) (j := i * 3 + 2) hng vv, hp, hS6, hE6⟩
  have hB6 : Below base w (w6.setCell ⟨g, i * 3 + 2, none⟩ vv) := by
    refine Below.setCell (Below.grown (below_drew hB5) hg6 (by simp; omega) (fun k hk => ?_)) hgb vv
    exact Kd.R_base hR k hk
  go_wp2_with fail
  go_ret
  exact ⟨(by first | rfl | (simp; done) | (simp [*]; done) | (rw [if_pos (by omega)]; first | rfl | (simp; done)) | (rw [if_neg (by omega)]; first | rfl | (simp; done)) | (simp; omega)), hst, hB6⟩
end Go.Proofs.YtijdghplfhfpaaaDoor.H

/- Boxes: the reference's put. -/
namespace Go.Proofs.YtijdghplfhfpaaaDoor.H
open Go.RowKit Go.Proofs.YtijdghplfhfpaaaDoorW.PrintWords Go.Proofs.YtijdghplfhfpaaaDoorW.PrintLast Go.Proofs.YtijdghplfhfpaaaDoor.U
set_option linter.unusedVariables false
set_option linter.unusedSimpArgs false
/-- A state read through two slices; what is read stands in no block of Z. -/
def Rd (Z : Nat → Prop) (w : World) (A : Option Addr) (bs : List ABox) (A2 : Option Addr) (es : List AEntry) : Prop :=
  ∀ W' : World, w.heap.size ≤ W'.heap.size → (∀ k, ¬ Z k → k < w.heap.size → W'.heap[k]? = w.heap[k]?) → kBox.C W' A bs.length bs ∧ Kd.C kAEntry W' A2 es.length es
theorem Rd.now {Z : Nat → Prop} {w : World} {A A2 : Option Addr} {bs : List ABox} {es : List AEntry} (h : Rd Z w A bs A2 es) : kBox.C w A bs.length bs ∧ Kd.C kAEntry w A2 es.length es := h w (Nat.le_refl _) (fun _ _ _ => rfl)
theorem Rd.step {Z Z' : Nat → Prop} {w w1 : World} {A A2 : Option Addr} {bs : List ABox} {es : List AEntry} (h : Rd Z w A bs A2 es) (hs : w.heap.size ≤ w1.heap.size) (hk : ∀ k, ¬ Z k → k < w.heap.size → w1.heap[k]? = w.heap[k]?) (hZ : ∀ k, k < w.heap.size → Z' k → Z k) : Rd Z' w1 A bs A2 es :=
  fun W' h1 h2 => h W' (Nat.le_trans hs h1) (fun k hz hlt => (h2 k (fun h3 => hz (hZ k hlt h3)) (Nat.lt_of_lt_of_le hlt hs)).trans (hk k hz hlt))
theorem Rd.below {Z : Nat → Prop} {w w1 : World} {A A2 : Option Addr} {bs : List ABox} {es : List AEntry} (h : Rd Z w A bs A2 es) (hb : Below w.heap.size w w1) : Rd Z w1 A bs A2 es := h.step hb.size (fun k _ hlt => hb.block k hlt) (fun _ _ h => h)
theorem Rd.own {Z : Nat → Prop} {w : World} {base n c n2 c2 : Nat} {ok ok2 : Nat → Prop} {A A2 : Option Addr} {bs : List ABox} {es : List AEntry} (hS : Kd.S kBox 77 w base ok (.slice A n c) bs) (hR : Kd.R kAEntry 40 w base ok2 (.slice A2 n2 c2) es) (h1 : ∀ k, ok k → base ≤ k → ¬ Z k) (h2 : ∀ k, ok2 k → base ≤ k → ¬ Z k) : Rd Z w A bs A2 es :=
  fun W' hs hk => ⟨(Kd.S_reads' (Kd.S_move (Kd.S_bound hS) (fun k h => hk k (h1 k h.1 h.2.1) h.2.2.1))).2.2, (Kd.R_reads' (Kd.R_move (Kd.R_bound hR) (fun k h => hk k (h2 k h.1 h.2.1) h.2.2.1))).2.2⟩
def PostSt (Z : Nat → Prop) (w : World) (R : Int × List ABox × List AEntry) (e : Ending) (w' : World) : Prop :=
  ∃ A c A2 c2, e = .returned (.tuple #[.agg #[.slice A R.2.1.length c, .slice A2 R.2.2.length c2], .int .i64 R.1]) ∧ R.2.1.length ≤ c ∧ Rd Z w' A R.2.1 A2 R.2.2 ∧ Below w.heap.size w w'
set_option maxHeartbeats 2000000 in
set_option maxRecDepth 100000 in
theorem put_calls (Z : Nat → Prop) (i : Nat) (fl : Int) (tx : ByteArray) (A : Option Addr) (c : Nat) (bs : List ABox) (A2 : Option Addr) (c2 : Nat) (es : List AEntry) (w : World) (hrd : Rd Z w A bs A2 es) (hZ : ∀ k, Z k → k < w.heap.size) (hc : bs.length ≤ c) (hinv : InvS bs es) (hi : i < bs.length) (htx : tx.size ≤ 2000) :
    Calls Tryd.prog 96 #[.agg #[.slice A bs.length c, .slice A2 es.length c2], .int .i64 i, .int .i64 fl, .string tx] w (PostSt Z w ((addV bs i fl tx).1, (addV bs i fl tx).2, es)) := by
  obtain ⟨hr, hr2⟩ := hrd.now
  obtain ⟨nm, nx, l, hb⟩ : ∃ nm nx l, bs[i] = (nm, nx, l) := ⟨_, _, _, rfl⟩
  have hgd : GoodB (nm, nx, l) := by rw [← hb]; exact hinv.2.2 _ (List.getElem_mem hi)
  obtain ⟨g1, g2, g3, g4, g5⟩ := hgd
  simp only at g1 g2 g3 g4 g5
  have hi1 := hinv.1
  have hi2 := hinv.2.1
  have hsz : stSize bs ≤ 300000 := by
    have h2 := inv_size hinv.2.2
    have h3 : bs.length * 60000 ≤ 5 * 60000 := Nat.mul_le_mul_right _ hinv.1
    omega
  have hb30 : ∀ b ∈ bs, b.2.2.length ≤ 1048576 := fun b hb => by have := (hinv.2.2 b hb).2.2.2.1; omega
  obtain ⟨W2, hW2⟩ : ∃ W2 : World, W2 = (w.alloc (.cells #[.slice A bs.length c, .slice A2 es.length c2] 25)).alloc (.cells #[.slice none 0 0, .slice none 0 0] 25) := ⟨_, rfl⟩
  have hP0 : Blk W2 w.heap.size [.slice A bs.length c, .slice A2 es.length c2] := by rw [hW2]; exact (Blk.made w _ _).alloc _
  have hQ0 : Blk W2 (w.heap.size + 1) [.slice none 0 0, .slice none 0 0] := by rw [hW2]; exact Blk.made_at _ _ _ (by simp)
  have hB0 : Below w.heap.size w W2 := by rw [hW2]; exact (by repeat (first | exact Below.refl _ _ | apply below_alloc | apply pw_below_drewN | apply below_drew1 | (refine Below.setCell ?_ (by first | (simp; done) | (simp; omega) | omega) _) ))
  have hz0 : W2.heap.size = w.heap.size + 1 + 1 := by rw [hW2]; simp
  obtain ⟨ad, Ae, ce, e1, x0, x1, x2, hC⟩ := box_at hr i hi
  subst e1
  rw [add1] at x1
  rw [add2] at x2
  rw [hb] at x0 x1 x2 hC
  simp only at x0 x1 x2 hC
  obtain ⟨W3, hW3⟩ : ∃ W3 : World, W3 = W2.alloc (.cells #[.string nm, .int .i64 nx, .slice Ae l.length ce] 77) := ⟨_, rfl⟩
  have hP1 : Blk W3 w.heap.size [.slice (some ad) bs.length c, .slice A2 es.length c2] := by rw [hW3]; exact hP0.alloc _
  have hQ1 : Blk W3 (w.heap.size + 1) [.slice none 0 0, .slice none 0 0] := by rw [hW3]; exact hQ0.alloc _
  have hX1 : Blk W3 (w.heap.size + 1 + 1) [.string nm, .int .i64 nx, .slice Ae l.length ce] := by rw [hW3, ← hz0]; exact Blk.made _ _ _
  have hB1 : Below w.heap.size w W3 := by rw [hW3]; exact below_alloc' hB0 (by omega) _
  have hz1 : W3.heap.size = w.heap.size + 1 + 1 + 1 := by rw [hW3]; simp [hz0]
  have i0 : (0 : Int) ≤ (i : Int) := by omega
  have i1 : (i : Int) < (bs.length : Int) := by omega
  rw [hW2] at hW3
  replace hW3 := Lib.hid hW3
  clear hP0 hQ0 hB0 hW2
  have x0a := cell_alloc' (cell_alloc' x0 (.cells #[.slice (some ad) bs.length c, .slice A2 es.length c2] 25)) (.cells #[.slice none 0 0, .slice none 0 0] 25)
  have x1a := cell_alloc' (cell_alloc' x1 (.cells #[.slice (some ad) bs.length c, .slice A2 es.length c2] 25)) (.cells #[.slice none 0 0, .slice none 0 0] 25)
  have x2a := cell_alloc' (cell_alloc' x2 (.cells #[.slice (some ad) bs.length c, .slice A2 es.length c2] 25)) (.cells #[.slice none 0 0, .slice none 0 0] 25)
  by_cases h30 : 30 ≤ l.length
  · rw [addV_full hi hb (.inl h30)]
    have h30' : (30 : Int) ≤ (l.length : Int) := by omega
    clear h30
    go_enter Tryd.func96, Tryd.ntmps96
    go_wp2_with fail
    refine bodyPost_ret (v := .tuple #[.agg #[.slice (some ad) bs.length c, .slice A2 es.length c2], .int .i64 5]) (by simp [results, Tryd.results96, go_sem, *]) rfl ?_
    exact ⟨some ad, c, A2, c2, rfl, hc, hrd.below (by repeat (first | exact Below.refl _ _ | apply below_alloc | apply pw_below_drewN | apply below_drew1 | (refine Below.setCell ?_ (by first | (simp; done) | (simp; omega) | omega) _) )), (by repeat (first | exact Below.refl _ _ | apply below_alloc | apply pw_below_drewN | apply below_drew1 | (refine Below.setCell ?_ (by first | (simp; done) | (simp; omega) | omega) _) ))⟩
  · have h30' : ¬ (30 : Int) ≤ (l.length : Int) := by omega
    by_cases hnx : 1048576 < nx
    · rw [addV_full hi hb (.inr (.inl hnx))]
      clear h30
      go_enter Tryd.func96, Tryd.ntmps96
      go_wp2_with fail
      refine bodyPost_ret (v := .tuple #[.agg #[.slice (some ad) bs.length c, .slice A2 es.length c2], .int .i64 5]) (by simp [results, Tryd.results96, go_sem, *]) rfl ?_
      exact ⟨some ad, c, A2, c2, rfl, hc, hrd.below (by repeat (first | exact Below.refl _ _ | apply below_alloc | apply pw_below_drewN | apply below_drew1 | (refine Below.setCell ?_ (by first | (simp; done) | (simp; omega) | omega) _) )), (by repeat (first | exact Below.refl _ _ | apply below_alloc | apply pw_below_drewN | apply below_drew1 | (refine Below.setCell ?_ (by first | (simp; done) | (simp; omega) | omega) _) ))⟩
    · have HZ := Lib.hid (fun W hr => bytesOf_calls (some ad) c bs (.slice A2 es.length c2) W ⟨_, _, _, rfl⟩ hr (by omega))
      have hwr : IntKind.i64.wrap ((stSize bs : Int) + (tx.size : Int)) = (stSize bs : Int) + (tx.size : Int) := by rw [IntKind.wrap_i64]; omega
      by_cases h6 : 6000 < stSize bs + tx.size
      · rw [addV_full hi hb (.inr (.inr h6))]
        have h6' : (6000 : Int) < (stSize bs : Int) + (tx.size : Int) := by omega
        generalize stSize bs = z at *
        clear h30
        go_enter Tryd.func96, Tryd.ntmps96
        go_wp2_with fail
        rw [← hW3.out]
        refine (HZ.out _ (Kd.C_below hr hB1)).mono ?_
        rintro e w1 ⟨rfl, hb1⟩
        have hz2 := hb1.size
        have hP2 := hP1.below hb1 (by omega)
        have hQ2 := hQ1.below hb1 (by omega)
        have hB2 := hB1.trans (hb1.mono (by omega))
        have q0 := hQ2.at 0 _ rfl
        have q1 := hQ2.at 1 _ rfl
        have q2 := hQ2.free 0 _ rfl
        have q3 := hQ2.free 1 _ rfl
        have p0 := hP2.at 0 _ rfl
        have p1 := hP2.at 1 _ rfl
        go_wp2_with fail
        refine bodyPost_ret (v := .tuple #[.agg #[.slice (some ad) bs.length c, .slice A2 es.length c2], .int .i64 5]) (by simp [results, Tryd.results96, go_sem, *]) rfl ?_
        exact ⟨some ad, c, A2, c2, rfl, hc, hrd.below (by repeat (first | exact Below.refl _ _ | apply below_alloc | apply pw_below_drewN | apply below_drew1 | (refine Below.setCell ?_ (by first | (simp; done) | (simp; omega) | omega) _) | exact hB2)), (by repeat (first | exact Below.refl _ _ | apply below_alloc | apply pw_below_drewN | apply below_drew1 | (refine Below.setCell ?_ (by first | (simp; done) | (simp; omega) | omega) _) | exact hB2))⟩
      · rw [addV_room hi hb (by intro h; rcases h with h | h | h <;> omega)]
        have h6' : ¬ (6000 : Int) < (stSize bs : Int) + (tx.size : Int) := by omega
        generalize stSize bs = z at *
        have HSC := Lib.hid (fun W h1 h2 => stateCopy_calls (some ad) c bs A2 c2 es W h1 h2 (by omega) (by omega) hb30)
        clear h30 x0a x1a x2a
        have x0a := cell_alloc' (cell_alloc' x0 (.cells #[.slice (some ad) bs.length c, .slice A2 es.length c2] 25)) (.cells #[.slice none 0 0, .slice none 0 0] 25)
        have x1a := cell_alloc' (cell_alloc' x1 (.cells #[.slice (some ad) bs.length c, .slice A2 es.length c2] 25)) (.cells #[.slice none 0 0, .slice none 0 0] 25)
        have x2a := cell_alloc' (cell_alloc' x2 (.cells #[.slice (some ad) bs.length c, .slice A2 es.length c2] 25)) (.cells #[.slice none 0 0, .slice none 0 0] 25)
        go_enter Tryd.func96, Tryd.ntmps96
        go_wp2_with fail
        rw [← hW3.out]
        refine (HZ.out _ (Kd.C_below hr hB1)).mono ?_
        rintro e w1 ⟨rfl, hb1⟩
        have hz2 := hb1.size
        have hP2 := hP1.below hb1 (by omega)
        have hQ2 := hQ1.below hb1 (by omega)
        have hX2 := hX1.below hb1 (by omega)
        have hB2 := hB1.trans (hb1.mono (by omega))
        have p0 := hP2.at 0 _ rfl
        have p1 := hP2.at 1 _ rfl
        have hz2' : w.heap.size + 1 + 1 + 1 ≤ w1.heap.size := by omega
        clear hP1 hQ1 hX1 hB1 hb1 x0a x1a x2a x0 x1 x2 hC hW3 hz1
        go_wp2_with fail
        refine (HSC.out _ (Kd.C_below hr hB2) (Kd.C_below hr2 hB2)).mono ?_
        rintro e w3 ⟨vB, vS, rfl, hS3, hE3, hb3⟩
        obtain ⟨Ab, cb, rfl⟩ := Kd.S_slice hS3
        obtain ⟨As, cs, rfl⟩ := Kd.R_slice hE3
        have hz3 := hb3.size
        obtain ⟨pb, hpbe⟩ : ∃ pb, pb = w3.heap.size := ⟨_, rfl⟩
        obtain ⟨base, hbe⟩ : ∃ base, base = w1.heap.size := ⟨_, rfl⟩
        obtain ⟨w5, hW5⟩ : ∃ w5 : World, w5 = w3.alloc (.cells #[.slice Ab bs.length cb, .slice As es.length cs] 25) := ⟨_, rfl⟩
        have hQ5 : Blk w5 (w.heap.size + 1) [.slice none 0 0, .slice none 0 0] := by rw [hW5]; exact (hQ2.below hb3 (by omega)).alloc _
        have hX5 : Blk w5 (w.heap.size + 1 + 1) [.string nm, .int .i64 nx, .slice Ae l.length ce] := by rw [hW5]; exact (hX2.below hb3 (by omega)).alloc _
        have hk5 : Blk w5 pb [.slice Ab bs.length cb, .slice As es.length cs] := by rw [hW5, hpbe]; exact Blk.made _ _ _
        have hB5 : Below w.heap.size w w5 := by rw [hW5]; exact below_alloc' (hB2.trans (hb3.mono (by omega))) (by omega) _
        have hS5 : Kd.S kBox 77 w5 base (fun k => k ≠ pb) (.slice Ab bs.length cb) bs := by rw [hW5, hbe, hpbe]; exact Kd.S_mono (Kd.S_below (Kd.S_bound hS3) (by repeat (first | exact Below.refl _ _ | apply below_alloc | apply pw_below_drewN | apply below_drew1 | (refine Below.setCell ?_ (by first | (simp; done) | (simp; omega) | omega) _) ))) (fun k hk => by have := hk.2.2.1; show k ≠ _; omega)
        have hE5 : Kd.R kAEntry 40 w5 base (fun k => k ≠ pb) (.slice As es.length cs) es := by rw [hW5, hbe, hpbe]; exact Kd.R_mono (Kd.R_below (Kd.R_bound hE3) (by repeat (first | exact Below.refl _ _ | apply below_alloc | apply pw_below_drewN | apply below_drew1 | (refine Below.setCell ?_ (by first | (simp; done) | (simp; omega) | omega) _) ))) (fun k hk => by have := hk.2.2.1; show k ≠ _; omega)
        have hz5 : w5.heap.size = pb + 1 := by rw [hW5, hpbe]; simp
        have hp : base ≤ pb := by omega
        have hbw : w.heap.size + 1 + 1 + 1 ≤ base := by omega
        replace hW5 := Lib.hid hW5
        replace hpbe := Lib.hid hpbe
        clear hP2 hQ2 hX2 hB2 hb3 hS3 hE3 p0 p1 hbe hz2 hz3
        go_wp2_with fail
        rw [← hW5.out, ← hpbe.out]
        have hz5k := hk5.lt
        have hz5x := hX5.lt
        have hz5q := hQ5.lt
        replace hz5 := Lib.hid hz5
        obtain ⟨g, cap, hAc, hgb, hgl, cells, hgc⟩ := Kd.S_form hS5 (by omega)
        injection hAc with hAc1 _ hAc2
        subst hAc1
        subst hAc2
        obtain ⟨oki, vM, y0, y1, y2, f1, f2, hR, hoki, hH⟩ := box_lend hS5 hi hb
        obtain ⟨Am, cm, rfl⟩ := Kd.R_slice hR
        have hng : g ≠ pb := fun he => (Kd.S_R hS5).1 g (by simp [Value.ownBlock]) he
        have hng2 : pb ≠ g := Ne.symm hng
        have ea : (⟨g, 0, none⟩ : Addr).add (i * 3) = ⟨g, i * 3, none⟩ := add_plain _ _
        have ngb : g ≠ w.heap.size + 1 + 1 := by omega
        have hH1 := Kd.H_widen (Kd.H_drew hH)
        have hR1 : Kd.R kAMail 84 w5.drew base (fun k => oki k ∨ k ≠ pb ∧ w5.drew.heap.size ≤ k) (.slice Am l.length cm) l := Kd.R_mono (Kd.R_drew hR) (fun k hk => .inl hk)
        have hng3 : ∀ k, (oki k ∨ k ≠ pb ∧ w5.drew.heap.size ≤ k) → k ≠ g := fun k hk => by
          rcases hk with hk | hk
          · exact (hoki k hk).2
          · have := hk.2; simp at this; omega
        have hgo : some g ≠ (Value.slice Am l.length cm).ownBlock := fun he => (hoki g (hR.1 g he.symm)).2 rfl
        have hpo : some pb ≠ (Value.slice Am l.length cm).ownBlock := fun he => (hoki pb (hR.1 pb he.symm)).1 rfl
        have y2d := cell_drew' y2
        have y2a := cell_alloc' y2 (.cells #[.int .i64 nx, .int .i64 fl, .string tx] 84)
        have hkd := hk5.drew
        have hXd := hX5.drew
        have hl30 : l.length < 30 := by omega
        go_wp2_with fail
        refine wp_region_held_drew (S := fun w' => w'.cell? ⟨pb, 0, none⟩ = some (.slice (some ⟨g, 0, none⟩) bs.length cb) ∧ w'.cell? ⟨w.heap.size + 1 + 1, 1, none⟩ = some (.int .i64 nx)) (by kernel_rfl) ?_ (fun hHeld => ?_)
        · exact ⟨hkd.at 0 _ rfl, hXd.at 1 _ rfl⟩
        refine wpAnyH_take (i := 0) (oi := { dst := some 37, op := _, type := _, pos := _, after := _, guard := _ }) (v := .pointer (some ⟨pb, 0, none⟩)) rfl (by kernel_rfl) (by kernel_rfl) (by kernel_rfl) (fun _ _ _ h => h) (Or.inl ⟨by rfl, by (intro w hSw; (try dsimp only at hSw); first | (go_simp; done) | (go_simp; with_reducible rfl) | (go_simp; omega) | (go_simp; simp [*]; done))⟩) (by assumption) ?_; try simp only [Act.put, List.setIfInBounds_toArray, List.set_cons_zero, List.set_cons_succ]
        refine wpAnyH_take (i := 1) (oi := { dst := some 38, op := _, type := _, pos := _, after := _, guard := _ }) (v := .slice (some ⟨g, 0, none⟩) bs.length cb) rfl (by kernel_rfl) (by kernel_rfl) (by kernel_rfl) (fun _ _ _ h => h) (Or.inl ⟨by rfl, by (intro w hSw; (try dsimp only at hSw); first | (go_simp; done) | (go_simp; with_reducible rfl) | (go_simp; omega) | (go_simp; simp [*]; done))⟩) (by assumption) ?_; try simp only [Act.put, List.setIfInBounds_toArray, List.set_cons_zero, List.set_cons_succ]
        refine wpAnyH_take (i := 2) (oi := { dst := some 39, op := _, type := _, pos := _, after := _, guard := _ }) (v := .int .i64 i) rfl (by kernel_rfl) (by kernel_rfl) (by kernel_rfl) (fun _ _ _ h => h) (Or.inl ⟨by rfl, by (intro w hSw; (try dsimp only at hSw); first | (go_simp; done) | (go_simp; with_reducible rfl) | (go_simp; omega) | (go_simp; simp [*]; done))⟩) (by assumption) ?_; try simp only [Act.put, List.setIfInBounds_toArray, List.set_cons_zero, List.set_cons_succ]
        refine wpAnyH_take (i := 3) (oi := { dst := some 40, op := _, type := _, pos := _, after := _, guard := _ }) (v := .pointer (some ⟨pb, 0, none⟩)) rfl (by kernel_rfl) (by kernel_rfl) (by kernel_rfl) (fun _ _ _ h => h) (Or.inl ⟨by rfl, by (intro w hSw; (try dsimp only at hSw); first | (go_simp; done) | (go_simp; with_reducible rfl) | (go_simp; omega) | (go_simp; simp [*]; done))⟩) (by assumption) ?_; try simp only [Act.put, List.setIfInBounds_toArray, List.set_cons_zero, List.set_cons_succ]
        refine wpAnyH_take (i := 4) (oi := { dst := some 41, op := _, type := _, pos := _, after := _, guard := _ }) (v := .slice (some ⟨g, 0, none⟩) bs.length cb) rfl (by kernel_rfl) (by kernel_rfl) (by kernel_rfl) (fun _ _ _ h => h) (Or.inl ⟨by rfl, by (intro w hSw; (try dsimp only at hSw); first | (go_simp; done) | (go_simp; with_reducible rfl) | (go_simp; omega) | (go_simp; simp [*]; done))⟩) (by assumption) ?_; try simp only [Act.put, List.setIfInBounds_toArray, List.set_cons_zero, List.set_cons_succ]
        refine wpAnyH_take (i := 5) (oi := { dst := some 42, op := _, type := _, pos := _, after := _, guard := _ }) (v := .int .i64 i) rfl (by kernel_rfl) (by kernel_rfl) (by kernel_rfl) (fun _ _ _ h => h) (Or.inl ⟨by rfl, by (intro w hSw; (try dsimp only at hSw); first | (go_simp; done) | (go_simp; with_reducible rfl) | (go_simp; omega) | (go_simp; simp [*]; done))⟩) (by assumption) ?_; try simp only [Act.put, List.setIfInBounds_toArray, List.set_cons_zero, List.set_cons_succ]
        refine wpAnyH_take (i := 6) (oi := { dst := some 43, op := _, type := _, pos := _, after := _, guard := _ }) (v := .pointer (some ⟨g, i * 3, none⟩)) rfl (by kernel_rfl) (by kernel_rfl) (by kernel_rfl) (fun _ _ _ h => h) (Or.inl ⟨by rfl, by (intro w hSw; (try dsimp only at hSw); first | (go_simp; done) | (go_simp; with_reducible rfl) | (go_simp; omega) | (go_simp; simp [*]; done))⟩) (by assumption) ?_; try simp only [Act.put, List.setIfInBounds_toArray, List.set_cons_zero, List.set_cons_succ]
        refine wpAnyH_take (i := 7) (oi := { dst := some 44, op := _, type := _, pos := _, after := _, guard := _ }) (v := .pointer (some ⟨g, i * 3 + 2, none⟩)) rfl (by kernel_rfl) (by kernel_rfl) (by kernel_rfl) (fun _ _ _ h => h) (Or.inl ⟨by rfl, by (intro w hSw; (try dsimp only at hSw); first | (go_simp; done) | (go_simp; with_reducible rfl) | (go_simp; omega) | (go_simp; simp [*]; done))⟩) (by assumption) ?_; try simp only [Act.put, List.setIfInBounds_toArray, List.set_cons_zero, List.set_cons_succ]
        refine wpAnyH_take (i := 9) (oi := { dst := some 46, op := _, type := _, pos := _, after := _, guard := _ }) (v := .pointer (some ⟨w.heap.size + 1 + 1, 1, none⟩)) rfl (by kernel_rfl) (by kernel_rfl) (by kernel_rfl) (fun _ _ _ h => h) (Or.inl ⟨by rfl, by (intro w hSw; (try dsimp only at hSw); first | (go_simp; done) | (go_simp; with_reducible rfl) | (go_simp; omega) | (go_simp; simp [*]; done))⟩) (by assumption) ?_; try simp only [Act.put, List.setIfInBounds_toArray, List.set_cons_zero, List.set_cons_succ]
        refine wpAnyH_take (i := 10) (oi := { dst := some 47, op := _, type := _, pos := _, after := _, guard := _ }) (v := .int .i64 nx) rfl (by kernel_rfl) (by kernel_rfl) (by kernel_rfl) (fun _ _ _ h => h) (Or.inl ⟨by rfl, by (intro w hSw; (try dsimp only at hSw); first | (go_simp; done) | (go_simp; with_reducible rfl) | (go_simp; omega) | (go_simp; simp [*]; done))⟩) (by assumption) ?_; try simp only [Act.put, List.setIfInBounds_toArray, List.set_cons_zero, List.set_cons_succ]
        refine wpAnyH_take (i := 11) (oi := { dst := some 48, op := _, type := _, pos := _, after := _, guard := _ }) (v := .int .i64 fl) rfl (by kernel_rfl) (by kernel_rfl) (by kernel_rfl) (fun _ _ _ h => h) (Or.inl ⟨by rfl, by (intro w hSw; (try dsimp only at hSw); first | (go_simp; done) | (go_simp; with_reducible rfl) | (go_simp; omega) | (go_simp; simp [*]; done))⟩) (by assumption) ?_; try simp only [Act.put, List.setIfInBounds_toArray, List.set_cons_zero, List.set_cons_succ]
        refine wpAnyH_take (i := 12) (oi := { dst := some 49, op := _, type := _, pos := _, after := _, guard := _ }) (v := .string tx) rfl (by kernel_rfl) (by kernel_rfl) (by kernel_rfl) (fun _ _ _ h => h) (Or.inl ⟨by rfl, by (intro w hSw; (try dsimp only at hSw); first | (go_simp; done) | (go_simp; with_reducible rfl) | (go_simp; omega) | (go_simp; simp [*]; done))⟩) (by assumption) ?_; try simp only [Act.put, List.setIfInBounds_toArray, List.set_cons_zero, List.set_cons_succ]
        refine wpAnyH_take (i := 13) (oi := { dst := some 50, op := _, type := _, pos := _, after := _, guard := _ }) (v := .agg #[.int .i64 nx, .int .i64 fl, .string tx]) rfl (by kernel_rfl) (by kernel_rfl) (by kernel_rfl) (fun _ _ _ h => h) (Or.inl ⟨by rfl, by (intro w hSw; (try dsimp only at hSw); first | (go_simp; done) | (go_simp; with_reducible rfl) | (go_simp; omega) | (go_simp; simp [*]; done))⟩) (by assumption) ?_; try simp only [Act.put, List.setIfInBounds_toArray, List.set_cons_zero, List.set_cons_succ]
        refine wpAnyH_ready (rs := [8, 14]) (by kernel_rfl) (by simp) ?_
        refine AllReadyH.cons (o := { dst := some 45, op := _, type := _, pos := _, after := _, guard := _ }) rfl (fun K hK => ?_) (AllReadyH.cons (o := { dst := some 51, op := _, type := _, pos := _, after := _, guard := _ }) rfl (fun K hK => ?_) AllReadyH.nil)
        · go_simp
          refine hK.out _ _ ⟨hkd.at 0 _ rfl, hXd.at 1 _ rfl⟩ (fun hHeld => ?_)
          clear hK K
          refine wpAnyH_ready (rs := [14]) (by kernel_rfl) (by simp) ?_
          refine AllReadyH.cons (o := { dst := some 51, op := _, type := _, pos := _, after := _, guard := _ }) rfl (fun K hK => ?_) AllReadyH.nil
          go_simp
          refine hK.out _ _ ⟨(hkd.alloc _).at 0 _ rfl, (hXd.alloc _).at 1 _ rfl⟩ (fun hHeld => ?_)
          clear hK K
          refine wpAnyH_ready (rs := [15]) (by kernel_rfl) (by simp) ?_
          refine AllReadyH.cons (o := { dst := some 52, op := _, type := _, pos := _, after := _, guard := _ }) rfl (fun K hK => ?_) AllReadyH.nil
          refine mail_step base (by rfl) (.tmp 45) (.tmp 51) (by rfl) (.slice Am l.length cm) l ⟨nx, fl, tx⟩ (fun k => oki k ∨ k ≠ pb ∧ w5.drew.heap.size ≤ k) (by rfl) (by rfl) (fun k hk => .inr ⟨(by simp at hk; omega), hk⟩) hR1 (by simp; omega) (by omega) ?_
          intro v1 w6 hR6 hb6 hg6
          obtain ⟨A6, c6, h6⟩ := Kd.R_slice hR6
          rw [List.length_append] at h6
          subst h6
          have hz6 := hg6.size
          simp at hz6
          have hbo : some (w.heap.size + 1 + 1) ≠ (Value.slice Am l.length cm).ownBlock := fun he => by have := Kd.R_base hR _ he.symm; omega
          have z1 := (hg6.cell_far ⟨g, i * 3 + 1, none⟩ (by simp; omega) hgo).trans (cell_drew' y1)
          have z2 := (hg6.cell_far ⟨g, i * 3 + 2, none⟩ (by simp; omega) hgo).trans y2d
          have z3 : w6.frozen? ⟨g, i * 3 + 1, none⟩ = false := (hg6.frozen_far ⟨g, i * 3 + 1, none⟩ (by simp; omega) hgo).trans (by simpa using f1)
          have z4 : w6.frozen? ⟨g, i * 3 + 2, none⟩ = false := (hg6.frozen_far ⟨g, i * 3 + 2, none⟩ (by simp; omega) hgo).trans (by simpa using f2)
          have hk6 := (hk5.drew).grown hg6 hpo
          have hX6 := (hX5.drew).grown hg6 hbo
          refine hK.out _ _ ⟨hk6.at 0 _ rfl, hX6.at 1 _ rfl⟩ (fun hHeld => ?_)
          clear hK K
          refine wpAnyH_take (i := 16) (oi := { dst := some 53, op := _, type := _, pos := _, after := _, guard := _ }) (v := .pointer (some ⟨g, i * 3, none⟩)) rfl (by kernel_rfl) (by kernel_rfl) (by kernel_rfl) (fun _ _ _ h => h) (Or.inl ⟨by rfl, by (intro w hSw; (try dsimp only at hSw); first | (go_simp; done) | (go_simp; with_reducible rfl) | (go_simp; omega) | (go_simp; simp [*]; done))⟩) (by assumption) ?_; try simp only [Act.put, List.setIfInBounds_toArray, List.set_cons_zero, List.set_cons_succ]
          refine wpAnyH_take (i := 17) (oi := { dst := some 54, op := _, type := _, pos := _, after := _, guard := _ }) (v := .pointer (some ⟨g, i * 3 + 2, none⟩)) rfl (by kernel_rfl) (by kernel_rfl) (by kernel_rfl) (fun _ _ _ h => h) (Or.inl ⟨by rfl, by (intro w hSw; (try dsimp only at hSw); first | (go_simp; done) | (go_simp; with_reducible rfl) | (go_simp; omega) | (go_simp; simp [*]; done))⟩) (by assumption) ?_; try simp only [Act.put, List.setIfInBounds_toArray, List.set_cons_zero, List.set_cons_succ]
          refine wpAnyH_ready (rs := [18]) (by kernel_rfl) (by simp) ?_
          refine AllReadyH.cons (o := { dst := none, op := _, type := _, pos := _, after := _, guard := _ }) rfl (fun K hK => ?_) AllReadyH.nil
          go_simp
          have hk7 := hk6.other (c := g) (j := i * 3 + 2) hng (.slice A6 (l.length + 1) c6)
          have hX7 := hX6.other (c := g) (j := i * 3 + 2) ngb (.slice A6 (l.length + 1) c6)
          refine hK.out _ _ ⟨hk7.at 0 _ rfl, hX7.at 1 _ rfl⟩ (fun hHeld => ?_)
          clear hK K
          refine wpAnyH_done (by kernel_rfl) ?_ _
          have hH6 := Kd.H_grown hH1 hg6 (fun k hk => hR1.1 k hk)
          have hk8 := hk7.other (c := g) (j := i * 3 + 1) hng (.int .i64 (nx + 1))
          have hS8 := box_back (box_hole1 (nx' := nx + 1) (box_hole2 (v1 := .slice A6 (l.length + 1) c6) hH6 hi rfl) hi) (Kd.R_far (p := ⟨g, i * 3 + 1, none⟩) (Kd.R_far (p := ⟨g, i * 3 + 2, none⟩) hR6 hng3 (.slice A6 (l.length + 1) c6)) hng3 (.int .i64 (nx + 1)))
          have hg7 : w6.heap[g]? = some (.cells cells 77 (0, 0)) := (hg6.block g (by simp; omega) hgo).trans hgc
          have hE8 := Kd.R_mono (Kd.R_far (p := ⟨g, i * 3 + 1, none⟩) (Kd.R_far (p := ⟨g, i * 3 + 2, none⟩) (Kd.R_types (entries_over (Kd.R_drew hE5) hR1 hg6) hg7 (by decide)) (fun k hk => hk.2) (.slice A6 (l.length + 1) c6)) (fun k hk => hk.2) (.int .i64 (nx + 1))) (fun k hk => hk.1)
          have hB8 := Below.setCell (p := ⟨g, i * 3 + 1, none⟩) (Below.setCell (p := ⟨g, i * 3 + 2, none⟩) (Below.trans (below_drew (Below.refl base w5)) hb6) hgb (.slice A6 (l.length + 1) c6)) hgb (.int .i64 (nx + 1))
          have hQ8 := hQ5.below hB8 (by omega)
          have hBB := hB5.trans (hB8.mono (by omega))
          have hw : IntKind.i64.wrap (nx + 1) = nx + 1 := by rw [IntKind.wrap_i64]; omega
          have k0 := hk7.at 0 _ rfl
          have k1 := hk8.at 0 _ rfl
          have k2 := hk8.at 1 _ rfl
          have b0 := hX7.at 1 _ rfl
          have q0 := hQ8.at 0 _ rfl
          have q1 := hQ8.at 1 _ rfl
          have q2 := hQ8.free 0 _ rfl
          have q3 := hQ8.free 1 _ rfl
          have z5 : (w6.setCell ⟨g, i * 3 + 2, none⟩ (.slice A6 (l.length + 1) c6)).cell? ⟨g, i * 3 + 1, none⟩ = some (.int .i64 nx) := by
            rw [World.cell?_setCell_other _ _ _ _ (by simp)]; exact z1
          have hcS := (Kd.S_reads' hS8).2.1
          have hRdo := fun u1 u2 => Rd.own (Z := Z) (Kd.S_far (p := ⟨w.heap.size + 1, 1, none⟩) (Kd.S_far (p := ⟨w.heap.size + 1, 0, none⟩) (Kd.S_bound hS8) (fun k hk => by have := hk.2.1; show k ≠ w.heap.size + 1; omega) u1) (fun k hk => by have := hk.2.1; show k ≠ w.heap.size + 1; omega) u2) (Kd.R_far (p := ⟨w.heap.size + 1, 1, none⟩) (Kd.R_far (p := ⟨w.heap.size + 1, 0, none⟩) (Kd.R_bound hE8) (fun k hk => by have := hk.2.1; show k ≠ w.heap.size + 1; omega) u1) (fun k hk => by have := hk.2.1; show k ≠ w.heap.size + 1; omega) u2) (fun k _ hk hz => by have := hZ k hz; omega) (fun k _ hk hz => by have := hZ k hz; omega)
          have hB66 : Below w.heap.size w w6 := hB5.trans ((Below.trans (below_drew (Below.refl base w5)) hb6).mono (by omega))
          clear hH6 hH1 hH hR6 hR1 hR hE5 hS5 z1 z2 y1 y2 y2d y2a hg7 hE8 hS8
          go_wp2_with fail
          refine bodyPost_ret (v := .tuple #[.agg #[.slice (some ⟨g, 0, none⟩) bs.length cb, .slice As es.length cs], .int .i64 0]) (by simp [results, Tryd.results96, go_sem, *]) rfl ?_
          refine ⟨some ⟨g, 0, none⟩, cb, As, cs, ?_, ?_, hRdo _ _, (by repeat (first | exact Below.refl _ _ | apply below_alloc | apply pw_below_drewN | apply below_drew1 | (refine Below.setCell ?_ (by first | (simp; done) | (simp; omega) | omega) _) | exact hB66))⟩
          · simp
          · simpa using hcS
        · go_simp
          refine hK.out _ _ ⟨(hkd.alloc _).at 0 _ rfl, (hXd.alloc _).at 1 _ rfl⟩ (fun hHeld => ?_)
          clear hK K
          refine wpAnyH_ready (rs := [8]) (by kernel_rfl) (by simp) ?_
          refine AllReadyH.cons (o := { dst := some 45, op := _, type := _, pos := _, after := _, guard := _ }) rfl (fun K hK => ?_) AllReadyH.nil
          go_simp
          refine hK.out _ _ ⟨(hkd.alloc _).at 0 _ rfl, (hXd.alloc _).at 1 _ rfl⟩ (fun hHeld => ?_)
          clear hK K
          refine wpAnyH_ready (rs := [15]) (by kernel_rfl) (by simp) ?_
          refine AllReadyH.cons (o := { dst := some 52, op := _, type := _, pos := _, after := _, guard := _ }) rfl (fun K hK => ?_) AllReadyH.nil
          refine mail_step base (by rfl) (.tmp 45) (.tmp 51) (by rfl) (.slice Am l.length cm) l ⟨nx, fl, tx⟩ (fun k => oki k ∨ k ≠ pb ∧ w5.drew.heap.size ≤ k) (by rfl) (by rfl) (fun k hk => .inr ⟨(by simp at hk; omega), hk⟩) hR1 (by simp; omega) (by omega) ?_
          intro v1 w6 hR6 hb6 hg6
          obtain ⟨A6, c6, h6⟩ := Kd.R_slice hR6
          rw [List.length_append] at h6
          subst h6
          have hz6 := hg6.size
          simp at hz6
          have hbo : some (w.heap.size + 1 + 1) ≠ (Value.slice Am l.length cm).ownBlock := fun he => by have := Kd.R_base hR _ he.symm; omega
          have z1 := (hg6.cell_far ⟨g, i * 3 + 1, none⟩ (by simp; omega) hgo).trans (cell_drew' y1)
          have z2 := (hg6.cell_far ⟨g, i * 3 + 2, none⟩ (by simp; omega) hgo).trans y2d
          have z3 : w6.frozen? ⟨g, i * 3 + 1, none⟩ = false := (hg6.frozen_far ⟨g, i * 3 + 1, none⟩ (by simp; omega) hgo).trans (by simpa using f1)
          have z4 : w6.frozen? ⟨g, i * 3 + 2, none⟩ = false := (hg6.frozen_far ⟨g, i * 3 + 2, none⟩ (by simp; omega) hgo).trans (by simpa using f2)
          have hk6 := (hk5.drew).grown hg6 hpo
          have hX6 := (hX5.drew).grown hg6 hbo
          refine hK.out _ _ ⟨hk6.at 0 _ rfl, hX6.at 1 _ rfl⟩ (fun hHeld => ?_)
          clear hK K
          refine wpAnyH_take (i := 16) (oi := { dst := some 53, op := _, type := _, pos := _, after := _, guard := _ }) (v := .pointer (some ⟨g, i * 3, none⟩)) rfl (by kernel_rfl) (by kernel_rfl) (by kernel_rfl) (fun _ _ _ h => h) (Or.inl ⟨by rfl, by (intro w hSw; (try dsimp only at hSw); first | (go_simp; done) | (go_simp; with_reducible rfl) | (go_simp; omega) | (go_simp; simp [*]; done))⟩) (by assumption) ?_; try simp only [Act.put, List.setIfInBounds_toArray, List.set_cons_zero, List.set_cons_succ]
          refine wpAnyH_take (i := 17) (oi := { dst := some 54, op := _, type := _, pos := _, after := _, guard := _ }) (v := .pointer (some ⟨g, i * 3 + 2, none⟩)) rfl (by kernel_rfl) (by kernel_rfl) (by kernel_rfl) (fun _ _ _ h => h) (Or.inl ⟨by rfl, by (intro w hSw; (try dsimp only at hSw); first | (go_simp; done) | (go_simp; with_reducible rfl) | (go_simp; omega) | (go_simp; simp [*]; done))⟩) (by assumption) ?_; try simp only [Act.put, List.setIfInBounds_toArray, List.set_cons_zero, List.set_cons_succ]
          refine wpAnyH_ready (rs := [18]) (by kernel_rfl) (by simp) ?_
          refine AllReadyH.cons (o := { dst := none, op := _, type := _, pos := _, after := _, guard := _ }) rfl (fun K hK => ?_) AllReadyH.nil
          go_simp
          have hk7 := hk6.other (c := g) (j := i * 3 + 2) hng (.slice A6 (l.length + 1) c6)
          have hX7 := hX6.other (c := g) (j := i * 3 + 2) ngb (.slice A6 (l.length + 1) c6)
          refine hK.out _ _ ⟨hk7.at 0 _ rfl, hX7.at 1 _ rfl⟩ (fun hHeld => ?_)
          clear hK K
          refine wpAnyH_done (by kernel_rfl) ?_ _
          have hH6 := Kd.H_grown hH1 hg6 (fun k hk => hR1.1 k hk)
          have hk8 := hk7.other (c := g) (j := i * 3 + 1) hng (.int .i64 (nx + 1))
          have hS8 := box_back (box_hole1 (nx' := nx + 1) (box_hole2 (v1 := .slice A6 (l.length + 1) c6) hH6 hi rfl) hi) (Kd.R_far (p := ⟨g, i * 3 + 1, none⟩) (Kd.R_far (p := ⟨g, i * 3 + 2, none⟩) hR6 hng3 (.slice A6 (l.length + 1) c6)) hng3 (.int .i64 (nx + 1)))
          have hg7 : w6.heap[g]? = some (.cells cells 77 (0, 0)) := (hg6.block g (by simp; omega) hgo).trans hgc
          have hE8 := Kd.R_mono (Kd.R_far (p := ⟨g, i * 3 + 1, none⟩) (Kd.R_far (p := ⟨g, i * 3 + 2, none⟩) (Kd.R_types (entries_over (Kd.R_drew hE5) hR1 hg6) hg7 (by decide)) (fun k hk => hk.2) (.slice A6 (l.length + 1) c6)) (fun k hk => hk.2) (.int .i64 (nx + 1))) (fun k hk => hk.1)
          have hB8 := Below.setCell (p := ⟨g, i * 3 + 1, none⟩) (Below.setCell (p := ⟨g, i * 3 + 2, none⟩) (Below.trans (below_drew (Below.refl base w5)) hb6) hgb (.slice A6 (l.length + 1) c6)) hgb (.int .i64 (nx + 1))
          have hQ8 := hQ5.below hB8 (by omega)
          have hBB := hB5.trans (hB8.mono (by omega))
          have hw : IntKind.i64.wrap (nx + 1) = nx + 1 := by rw [IntKind.wrap_i64]; omega
          have k0 := hk7.at 0 _ rfl
          have k1 := hk8.at 0 _ rfl
          have k2 := hk8.at 1 _ rfl
          have b0 := hX7.at 1 _ rfl
          have q0 := hQ8.at 0 _ rfl
          have q1 := hQ8.at 1 _ rfl
          have q2 := hQ8.free 0 _ rfl
          have q3 := hQ8.free 1 _ rfl
          have z5 : (w6.setCell ⟨g, i * 3 + 2, none⟩ (.slice A6 (l.length + 1) c6)).cell? ⟨g, i * 3 + 1, none⟩ = some (.int .i64 nx) := by
            rw [World.cell?_setCell_other _ _ _ _ (by simp)]; exact z1
          have hcS := (Kd.S_reads' hS8).2.1
          have hRdo := fun u1 u2 => Rd.own (Z := Z) (Kd.S_far (p := ⟨w.heap.size + 1, 1, none⟩) (Kd.S_far (p := ⟨w.heap.size + 1, 0, none⟩) (Kd.S_bound hS8) (fun k hk => by have := hk.2.1; show k ≠ w.heap.size + 1; omega) u1) (fun k hk => by have := hk.2.1; show k ≠ w.heap.size + 1; omega) u2) (Kd.R_far (p := ⟨w.heap.size + 1, 1, none⟩) (Kd.R_far (p := ⟨w.heap.size + 1, 0, none⟩) (Kd.R_bound hE8) (fun k hk => by have := hk.2.1; show k ≠ w.heap.size + 1; omega) u1) (fun k hk => by have := hk.2.1; show k ≠ w.heap.size + 1; omega) u2) (fun k _ hk hz => by have := hZ k hz; omega) (fun k _ hk hz => by have := hZ k hz; omega)
          have hB66 : Below w.heap.size w w6 := hB5.trans ((Below.trans (below_drew (Below.refl base w5)) hb6).mono (by omega))
          clear hH6 hH1 hH hR6 hR1 hR hE5 hS5 z1 z2 y1 y2 y2d y2a hg7 hE8 hS8
          go_wp2_with fail
          refine bodyPost_ret (v := .tuple #[.agg #[.slice (some ⟨g, 0, none⟩) bs.length cb, .slice As es.length cs], .int .i64 0]) (by simp [results, Tryd.results96, go_sem, *]) rfl ?_
          refine ⟨some ⟨g, 0, none⟩, cb, As, cs, ?_, ?_, hRdo _ _, (by repeat (first | exact Below.refl _ _ | apply below_alloc | apply pw_below_drewN | apply below_drew1 | (refine Below.setCell ?_ (by first | (simp; done) | (simp; omega) | omega) _) | exact hB66))⟩
          · simp
          · simpa using hcS
end Go.Proofs.YtijdghplfhfpaaaDoor.H

/- Boxes: the reference's entered: Spool, Create, no such box, Append. -/
namespace Go.Proofs.YtijdghplfhfpaaaDoor.H
open Go.RowKit Go.Proofs.YtijdghplfhfpaaaDoorW.PrintWords Go.Proofs.YtijdghplfhfpaaaDoorW.PrintLast Go.Proofs.YtijdghplfhfpaaaDoor.U
set_option linter.unusedVariables false
set_option linter.unusedSimpArgs false
section
variable {ops : Array Oper} {rest : List Oper} {o : Oper} {a : Act} {Q : Exit → Act → World → Prop}
theorem entry_list (base : Nat) {W : World} (hgd : o.guard = none) (s x : Operand)
    (ho : o.op = .call { callee := .builtin .append, args := #[s, x], argTypes := #[23, 23] })
    (v : Value) (xs : List AEntry) (p : AEntry) (ok : Nat → Prop) (hs : a.eval s = v) (hx : a.eval x = .slice (some ⟨W.heap.size, 0, none⟩) 1 1) (hfresh : ∀ k, W.heap.size ≤ k → ok k)
    (HO : Kd.R kAEntry 40 W base ok v xs) (hbase : base ≤ W.heap.size) (hl : (xs.length + 1) * 72 ≤ 140737488355328)
    (h : ∀ v1 w1, Kd.R kAEntry 40 w1 base ok v1 (xs ++ [p]) → Below base W w1 → W.grownBy w1 v.ownBlock → wpList Tryd.prog ops Q rest (a.put o.dst v1) w1) :
    wpList Tryd.prog ops Q (o :: rest) a (W.alloc (.cells #[.int .i64 p.kind, .string p.box, .int .i64 p.uid, .int .i64 p.flags, .string p.to_, .string p.text] 40)) :=
  Kd.R_append kAEntry (w0 := W) base hgd s x 23 40 _ 72 ho rowAEntry.ht rowAEntry.hinfo rowAEntry.hz rowAEntry.hs0 rowAEntry.hb0 v xs p [.int .i64 p.kind, .string p.box, .int .i64 p.uid, .int .i64 p.flags, .string p.to_, .string p.text] ok (fun _ => False) hs hx rfl (fun _ h => h.elim) hfresh HO (Below.refl _ _) hbase hl
    (fun v1 w1 hR hb hg _ => h v1 w1 hR hb hg)
theorem box_list (base : Nat) {W : World} (hgd : o.guard = none) (s x : Operand)
    (ho : o.op = .call { callee := .builtin .append, args := #[s, x], argTypes := #[22, 22] })
    (v : Value) (xs : List ABox) (nm : ByteArray) (nx : Int) (ok : Nat → Prop) (hs : a.eval s = v) (hx : a.eval x = .slice (some ⟨W.heap.size, 0, none⟩) 1 1) (hfresh : ∀ k, W.heap.size ≤ k → ok k)
    (HO : Kd.S kBox 77 W base ok v xs) (hbase : base ≤ W.heap.size) (hl : (xs.length + 1) * 48 ≤ 140737488355328)
    (h : ∀ v1 w1, Kd.S kBox 77 w1 base ok v1 (xs ++ [(nm, nx, [])]) → Below base W w1 → W.grownBy w1 v.ownBlock → wpList Tryd.prog ops Q rest (a.put o.dst v1) w1) :
    wpList Tryd.prog ops Q (o :: rest) a (W.alloc (.cells #[.string nm, .int .i64 nx, .slice none 0 0] 77)) :=
  Kd.S_append kBox (w0 := W) base hgd s x 22 77 (.agg #[.string ⟨#[]⟩, .int .i64 0, .slice none 0 0]) 48 ho Tryd.underlying22 (by kernel_rfl) rfl (by decide) (by decide) v xs (nm, nx, []) [.string nm, .int .i64 nx, .slice none 0 0] ok (fun _ => False) hs hx
    ⟨[.string nm], [.int .i64 nx, .slice none 0 0], rfl, rfl, ⟨[.int .i64 nx], [.slice none 0 0], rfl, rfl, ⟨_, rfl, Kd.R_nil _ _ _ _ _⟩⟩⟩
    (fun _ h => h.elim) hfresh (Kd.S_mono HO (fun k hk => ⟨hk, fun h => h⟩)) (Below.refl _ _) hbase hl (fun v1 w1 hR hb hg _ => h v1 w1 hR hb hg)
end
theorem own_out {Z : Nat → Prop} {w : World} {base n c n2 c2 : Nat} {ok ok2 : Nat → Prop} {A A2 : Option Addr} {bs : List ABox} {es : List AEntry} (hS : Kd.S kBox 77 w base ok (.slice A n c) bs) (hR : Kd.R kAEntry 40 w base ok2 (.slice A2 n2 c2) es) (hZ : ∀ k, Z k → k < base) :
    n = bs.length ∧ n ≤ c ∧ n2 = es.length ∧ ∀ b, b < base → ∀ u1 u2, Rd Z ((w.setCell ⟨b, 0, none⟩ u1).setCell ⟨b, 1, none⟩ u2) A bs A2 es := by
  obtain ⟨h1, h2, _⟩ := Kd.S_reads' hS
  obtain ⟨h3, _, _⟩ := Kd.R_reads' hR
  refine ⟨h1, h2, h3, fun b hb u1 u2 => ?_⟩
  exact Rd.own (Kd.S_far (p := ⟨b, 1, none⟩) (Kd.S_far (p := ⟨b, 0, none⟩) (Kd.S_bound hS) (fun k hk => by have := hk.2.1; show k ≠ b; omega) u1) (fun k hk => by have := hk.2.1; show k ≠ b; omega) u2)
    (Kd.R_far (p := ⟨b, 1, none⟩) (Kd.R_far (p := ⟨b, 0, none⟩) (Kd.R_bound hR) (fun k hk => by have := hk.2.1; show k ≠ b; omega) u1) (fun k hk => by have := hk.2.1; show k ≠ b; omega) u2)
    (fun k _ hk hz => by have := hZ k hz; omega) (fun k _ hk hz => by have := hZ k hz; omega)
set_option maxHeartbeats 2000000 in
set_option maxRecDepth 100000 in
theorem entered_spool (Z : Nat → Prop) (bx : ByteArray) (u f : Int) (to_ tx : ByteArray) (A : Option Addr) (c : Nat) (bs : List ABox) (A2 : Option Addr) (c2 : Nat) (es : List AEntry) (w : World) (hrd : Rd Z w A bs A2 es) (hZ : ∀ k, Z k → k < w.heap.size) (hc : bs.length ≤ c) (hinv : InvS bs es) :
    Calls Tryd.prog 57 #[.agg #[.slice A bs.length c, .slice A2 es.length c2], .agg #[.int .i64 6, .string bx, .int .i64 u, .int .i64 f, .string to_, .string tx]] w (PostSt Z w (entV bs es ⟨6, bx, u, f, to_, tx⟩)) := by
  obtain ⟨hr, hr2⟩ := hrd.now
  have hev : entV bs es ⟨6, bx, u, f, to_, tx⟩ = if 20 ≤ es.length then (5, bs, es) else (0, bs, es ++ [⟨6, bx, u, f, to_, tx⟩]) := if_pos rfl
  rw [hev]
  clear hev
  obtain ⟨fi, hfi⟩ : ∃ fi, findG bx bs 0 = fi := ⟨_, rfl⟩
  by_cases hf : 20 ≤ es.length
  · rw [if_pos hf]
    have e20 : (20 : Int) ≤ (es.length : Int) := by omega
    obtain ⟨W3, hW3⟩ : ∃ W3 : World, W3 = ((w.alloc (.cells #[.slice (A) bs.length c, .slice A2 es.length c2] 25)).alloc (.cells #[.int .i64 6, .string bx, .int .i64 u, .int .i64 f, .string to_, .string tx] 40)).alloc (.cells #[.slice none 0 0, .slice none 0 0] 25) := ⟨_, rfl⟩
    have hP0 : Blk W3 w.heap.size [.slice (A) bs.length c, .slice A2 es.length c2] := by rw [hW3]; exact ((Blk.made w _ _).alloc _).alloc _
    have hX0 : Blk W3 (w.heap.size + 1) [.int .i64 6, .string bx, .int .i64 u, .int .i64 f, .string to_, .string tx] := by rw [hW3]; exact (Blk.made_at _ _ _ (by simp)).alloc _
    have hQ0 : Blk W3 (w.heap.size + 1 + 1) [.slice none 0 0, .slice none 0 0] := by rw [hW3]; exact Blk.made_at _ _ _ (by simp)
    have hB0 : Below w.heap.size w W3 := by rw [hW3]; exact (by repeat (first | exact Below.refl _ _ | apply below_alloc | apply pw_below_drewN | apply below_drew1 | (refine Below.setCell ?_ (by first | (simp; done) | (simp; omega) | omega) _) ))
    have hz0 : W3.heap.size = w.heap.size + 1 + 1 + 1 := by rw [hW3]; simp
    replace hW3 := Lib.hid hW3
    have hi1 := hinv.1
    have hi2 := hinv.2.1
    have hb30 : ∀ b ∈ bs, b.2.2.length ≤ 1048576 := fun b hb => by have := (hinv.2.2 b hb).2.2.2.1; omega
    have HSC := Lib.hid (stateCopy_calls (A) c bs A2 c2 es W3 (Kd.C_below hr hB0) (Kd.C_below hr2 hB0) (by omega) (by omega) hb30)
    have HF := fun W hr => boxOf_calls (A) c bs bx W hr
    simp only [hfi] at HF
    replace HF := Lib.hid HF
    clear hfi hf
    go_enter Tryd.func57, Tryd.ntmps57
    go_wp2_with fail
    rw [← hW3.out]
    refine HSC.out.mono ?_
    rintro e w3 ⟨vB, vS, rfl, hS3, hE3, hb3⟩
    obtain ⟨Ab, cb, rfl⟩ := Kd.S_slice hS3
    obtain ⟨As, cs, rfl⟩ := Kd.R_slice hE3
    have hz3 := hb3.size
    obtain ⟨pb, hpbe⟩ : ∃ pb, pb = w3.heap.size := ⟨_, rfl⟩
    obtain ⟨base, hbe⟩ : ∃ base, base = W3.heap.size := ⟨_, rfl⟩
    obtain ⟨w5, hW5⟩ : ∃ w5 : World, w5 = w3.alloc (.cells #[.slice Ab bs.length cb, .slice As es.length cs] 25) := ⟨_, rfl⟩
    have hP5 : Blk w5 w.heap.size [.slice (A) bs.length c, .slice A2 es.length c2] := by rw [hW5]; exact (hP0.below hb3 (by omega)).alloc _
    have hX5 : Blk w5 (w.heap.size + 1) [.int .i64 6, .string bx, .int .i64 u, .int .i64 f, .string to_, .string tx] := by rw [hW5]; exact (hX0.below hb3 (by omega)).alloc _
    have hQ5 : Blk w5 (w.heap.size + 1 + 1) [.slice none 0 0, .slice none 0 0] := by rw [hW5]; exact (hQ0.below hb3 (by omega)).alloc _
    have hk5 : Blk w5 pb [.slice Ab bs.length cb, .slice As es.length cs] := by rw [hW5, hpbe]; exact Blk.made _ _ _
    have hB5 : Below w.heap.size w w5 := by rw [hW5]; exact below_alloc' (hB0.trans (hb3.mono (by omega))) (by omega) _
    have hS5 : Kd.S kBox 77 w5 base (fun k => k ≠ pb) (.slice Ab bs.length cb) bs := by rw [hW5, hbe, hpbe]; exact Kd.S_mono (Kd.S_below (Kd.S_bound hS3) (by repeat (first | exact Below.refl _ _ | apply below_alloc | apply pw_below_drewN | apply below_drew1 | (refine Below.setCell ?_ (by first | (simp; done) | (simp; omega) | omega) _) ))) (fun k hk => by have := hk.2.2.1; show k ≠ _; omega)
    have hE5 : Kd.R kAEntry 40 w5 base (fun k => k ≠ pb) (.slice As es.length cs) es := by rw [hW5, hbe, hpbe]; exact Kd.R_mono (Kd.R_below (Kd.R_bound hE3) (by repeat (first | exact Below.refl _ _ | apply below_alloc | apply pw_below_drewN | apply below_drew1 | (refine Below.setCell ?_ (by first | (simp; done) | (simp; omega) | omega) _) ))) (fun k hk => by have := hk.2.2.1; show k ≠ _; omega)
    have hp : base ≤ pb := by omega
    have hbw : w.heap.size + 1 + 1 < base := by omega
    have hC5 := Kd.C_below hr hB5
    have hz5k := hk5.lt
    have hz5p := hP5.lt
    have hz5x := hX5.lt
    have hz5q := hQ5.lt
    have p0 := (hP0.below hb3 (by omega)).at 0 _ rfl
    have x1 := (hX0.below hb3 (by omega)).at 1 _ rfl
    have hlt1 : w.heap.size < w3.heap.size := by omega
    have hlt2 : w.heap.size + 1 < w3.heap.size := by omega
    replace hW5 := Lib.hid hW5
    replace hpbe := Lib.hid hpbe
    clear hP0 hX0 hQ0 hB0 hb3 hS3 hE3 hbe hz0 hz3 hW3 HSC
    go_wp2_with fail
    rw [← hW5.out, ← hpbe.out]
    clear p0 x1 hlt1 hlt2
    have p0 := hP5.at 0 _ rfl
    have p1 := hP5.at 1 _ rfl
    have x0 := hX5.at 0 _ rfl
    have x1 := hX5.at 1 _ rfl
    have x2 := hX5.at 2 _ rfl
    have x3 := hX5.at 3 _ rfl
    have x4 := hX5.at 4 _ rfl
    have x5 := hX5.at 5 _ rfl
    have k0 := hk5.at 0 _ rfl
    have k1 := hk5.at 1 _ rfl
    refine (HF.out _ hC5).mono ?_
    rintro e w' ⟨rfl, rfl⟩
    have q0 := hQ5.at 0 _ rfl
    have q1 := hQ5.at 1 _ rfl
    have q2 := hQ5.free 0 _ rfl
    have q3 := hQ5.free 1 _ rfl
    go_wp2_with fail
    refine bodyPost_ret (v := .tuple #[.agg #[.slice (A) bs.length c, .slice A2 es.length c2], .int .i64 5]) (by simp [results, Tryd.results57, go_sem, *]) rfl ?_
    exact ⟨A, c, A2, c2, rfl, hc, hrd.below (by repeat (first | exact Below.refl _ _ | apply below_alloc | apply pw_below_drewN | apply below_drew1 | (refine Below.setCell ?_ (by first | (simp; done) | (simp; omega) | omega) _) | exact hB5)), (by repeat (first | exact Below.refl _ _ | apply below_alloc | apply pw_below_drewN | apply below_drew1 | (refine Below.setCell ?_ (by first | (simp; done) | (simp; omega) | omega) _) | exact hB5))⟩
  · rw [if_neg hf]
    have e20 : ¬ (20 : Int) ≤ (es.length : Int) := by omega
    obtain ⟨W3, hW3⟩ : ∃ W3 : World, W3 = ((w.alloc (.cells #[.slice (A) bs.length c, .slice A2 es.length c2] 25)).alloc (.cells #[.int .i64 6, .string bx, .int .i64 u, .int .i64 f, .string to_, .string tx] 40)).alloc (.cells #[.slice none 0 0, .slice none 0 0] 25) := ⟨_, rfl⟩
    have hP0 : Blk W3 w.heap.size [.slice (A) bs.length c, .slice A2 es.length c2] := by rw [hW3]; exact ((Blk.made w _ _).alloc _).alloc _
    have hX0 : Blk W3 (w.heap.size + 1) [.int .i64 6, .string bx, .int .i64 u, .int .i64 f, .string to_, .string tx] := by rw [hW3]; exact (Blk.made_at _ _ _ (by simp)).alloc _
    have hQ0 : Blk W3 (w.heap.size + 1 + 1) [.slice none 0 0, .slice none 0 0] := by rw [hW3]; exact Blk.made_at _ _ _ (by simp)
    have hB0 : Below w.heap.size w W3 := by rw [hW3]; exact (by repeat (first | exact Below.refl _ _ | apply below_alloc | apply pw_below_drewN | apply below_drew1 | (refine Below.setCell ?_ (by first | (simp; done) | (simp; omega) | omega) _) ))
    have hz0 : W3.heap.size = w.heap.size + 1 + 1 + 1 := by rw [hW3]; simp
    replace hW3 := Lib.hid hW3
    have hi1 := hinv.1
    have hi2 := hinv.2.1
    have hb30 : ∀ b ∈ bs, b.2.2.length ≤ 1048576 := fun b hb => by have := (hinv.2.2 b hb).2.2.2.1; omega
    have HSC := Lib.hid (stateCopy_calls (A) c bs A2 c2 es W3 (Kd.C_below hr hB0) (Kd.C_below hr2 hB0) (by omega) (by omega) hb30)
    have HF := fun W hr => boxOf_calls (A) c bs bx W hr
    simp only [hfi] at HF
    replace HF := Lib.hid HF
    clear hfi hf
    go_enter Tryd.func57, Tryd.ntmps57
    go_wp2_with fail
    rw [← hW3.out]
    refine HSC.out.mono ?_
    rintro e w3 ⟨vB, vS, rfl, hS3, hE3, hb3⟩
    obtain ⟨Ab, cb, rfl⟩ := Kd.S_slice hS3
    obtain ⟨As, cs, rfl⟩ := Kd.R_slice hE3
    have hz3 := hb3.size
    obtain ⟨pb, hpbe⟩ : ∃ pb, pb = w3.heap.size := ⟨_, rfl⟩
    obtain ⟨base, hbe⟩ : ∃ base, base = W3.heap.size := ⟨_, rfl⟩
    obtain ⟨w5, hW5⟩ : ∃ w5 : World, w5 = w3.alloc (.cells #[.slice Ab bs.length cb, .slice As es.length cs] 25) := ⟨_, rfl⟩
    have hP5 : Blk w5 w.heap.size [.slice (A) bs.length c, .slice A2 es.length c2] := by rw [hW5]; exact (hP0.below hb3 (by omega)).alloc _
    have hX5 : Blk w5 (w.heap.size + 1) [.int .i64 6, .string bx, .int .i64 u, .int .i64 f, .string to_, .string tx] := by rw [hW5]; exact (hX0.below hb3 (by omega)).alloc _
    have hQ5 : Blk w5 (w.heap.size + 1 + 1) [.slice none 0 0, .slice none 0 0] := by rw [hW5]; exact (hQ0.below hb3 (by omega)).alloc _
    have hk5 : Blk w5 pb [.slice Ab bs.length cb, .slice As es.length cs] := by rw [hW5, hpbe]; exact Blk.made _ _ _
    have hB5 : Below w.heap.size w w5 := by rw [hW5]; exact below_alloc' (hB0.trans (hb3.mono (by omega))) (by omega) _
    have hS5 : Kd.S kBox 77 w5 base (fun k => k ≠ pb) (.slice Ab bs.length cb) bs := by rw [hW5, hbe, hpbe]; exact Kd.S_mono (Kd.S_below (Kd.S_bound hS3) (by repeat (first | exact Below.refl _ _ | apply below_alloc | apply pw_below_drewN | apply below_drew1 | (refine Below.setCell ?_ (by first | (simp; done) | (simp; omega) | omega) _) ))) (fun k hk => by have := hk.2.2.1; show k ≠ _; omega)
    have hE5 : Kd.R kAEntry 40 w5 base (fun k => k ≠ pb) (.slice As es.length cs) es := by rw [hW5, hbe, hpbe]; exact Kd.R_mono (Kd.R_below (Kd.R_bound hE3) (by repeat (first | exact Below.refl _ _ | apply below_alloc | apply pw_below_drewN | apply below_drew1 | (refine Below.setCell ?_ (by first | (simp; done) | (simp; omega) | omega) _) ))) (fun k hk => by have := hk.2.2.1; show k ≠ _; omega)
    have hp : base ≤ pb := by omega
    have hbw : w.heap.size + 1 + 1 < base := by omega
    have hC5 := Kd.C_below hr hB5
    have hz5k := hk5.lt
    have hz5p := hP5.lt
    have hz5x := hX5.lt
    have hz5q := hQ5.lt
    have p0 := (hP0.below hb3 (by omega)).at 0 _ rfl
    have x1 := (hX0.below hb3 (by omega)).at 1 _ rfl
    have hlt1 : w.heap.size < w3.heap.size := by omega
    have hlt2 : w.heap.size + 1 < w3.heap.size := by omega
    replace hW5 := Lib.hid hW5
    replace hpbe := Lib.hid hpbe
    clear hP0 hX0 hQ0 hB0 hb3 hS3 hE3 hbe hz0 hz3 hW3 HSC
    go_wp2_with fail
    rw [← hW5.out, ← hpbe.out]
    clear p0 x1 hlt1 hlt2
    have p0 := hP5.at 0 _ rfl
    have p1 := hP5.at 1 _ rfl
    have x0 := hX5.at 0 _ rfl
    have x1 := hX5.at 1 _ rfl
    have x2 := hX5.at 2 _ rfl
    have x3 := hX5.at 3 _ rfl
    have x4 := hX5.at 4 _ rfl
    have x5 := hX5.at 5 _ rfl
    have k0 := hk5.at 0 _ rfl
    have k1 := hk5.at 1 _ rfl
    refine (HF.out _ hC5).mono ?_
    rintro e w' ⟨rfl, rfl⟩
    go_wp2_with (at_builtin; refine entry_list base rfl _ _ rfl (.slice As es.length cs) es ⟨6, bx, u, f, to_, tx⟩ (fun k => k ≠ pb) (by first | rfl | (simp [Act.eval]; done)) (by first | rfl | (simp [Act.eval]; done)) (fun k hk => (by omega)) hE5 (by omega) (by omega) ?_)
    intro v1 w6 hR6 hb6 hg6
    obtain ⟨A6, c6, h6⟩ := Kd.R_slice hR6
    rw [List.length_append] at h6
    subst h6
    have hpo : some pb ≠ (Value.slice As es.length cs).ownBlock := fun he => hE5.1 pb he.symm rfl
    have hk6 := hk5.grown hg6 hpo
    have hS6 := Kd.S_over' hS5 (Kd.R_typed hE5) (by decide) hg6
    have hQ6 := hQ5.below hb6 (by omega)
    have hB6 := hB5.trans (hb6.mono (by omega))
    have hz6 := hb6.size
    have g1 := hk6.at 1 _ rfl
    have g2 := hk6.free 1 _ rfl
    have hk7 := hk6.set 1 (.slice A6 (es.length + 1) c6) (by simp)
    have hS7 := Kd.S_far (p := ⟨pb, 1, none⟩) hS6 (fun k hk => hk) (.slice A6 (es.length + 1) c6)
    have hR7 := Kd.R_far (p := ⟨pb, 1, none⟩) hR6 (fun k hk => hk) (.slice A6 (es.length + 1) c6)
    have hQ7 := hQ6.other (c := pb) (j := 1) (by omega) (.slice A6 (es.length + 1) c6)
    have hlz : w.heap.size + 1 + 1 < w6.heap.size := by omega
    have r0 := hk7.at 0 _ rfl
    obtain ⟨hn1, hn2, hn3, hCo⟩ := own_out (Z := Z) hS7 hR7 (fun k hk => by have := hZ k hk; omega)
    have q0 := (hQ7).at 0 _ rfl
    have q1 := (hQ7).at 1 _ rfl
    have q2 := (hQ7).free 0 _ rfl
    have q3 := (hQ7).free 1 _ rfl
    replace hn1 := Lib.hid hn1
    replace hn3 := Lib.hid hn3
    go_wp2_with fail
    refine bodyPost_ret (v := .tuple #[.agg #[.slice (Ab) (bs.length) cb, .slice (A6) (es.length + 1) c6], .int .i64 0]) (by simp [results, Tryd.results57, go_sem, *]) rfl ?_
    exact ⟨Ab, cb, A6, c6, by simp, by first | exact hn2 | (rw [← hn1.out]; exact hn2) | (simp; omega), hCo _ (by omega) _ _, (by repeat (first | exact Below.refl _ _ | apply below_alloc | apply pw_below_drewN | apply below_drew1 | (refine Below.setCell ?_ (by first | (simp; done) | (simp; omega) | omega) _) | exact hB6))⟩
end Go.Proofs.YtijdghplfhfpaaaDoor.H
