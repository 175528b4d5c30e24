/- The claim BookFoldsUptoCardSaid, part 4 of 7. -/
import Derived.Test.YtijdghplfhfpaaaDoorBookFoldsK3
import Derived.Laws.IdiomCopy
import Derived.Test.YtijdghplfhfpaaaDoorBookFoldsK1
import Derived.Test.YtijdghplfhfpaaaDoorBookFoldsK2
/- Boxes: mails searched and dropped. -/
namespace Go.Proofs.YtijdghplfhfpaaaDoor.H
open Go.RowKit Go.Proofs.YtijdghplfhfpaaaDoorW.PrintWords Go.Proofs.YtijdghplfhfpaaaDoorW.PrintLast Go.Proofs.YtijdghplfhfpaaaDoor.U
set_option linter.unusedVariables false
set_option linter.unusedSimpArgs false
/-- Where the first mail stands that p takes; -1: there is none. -/
def findP (p : AMail → Bool) : List AMail → Int → Int
  | [], _ => -1
  | m :: l, k => if p m = true then k else findP p l (k + 1)
theorem findP_yes {p : AMail → Bool} {l : List AMail} {k : Nat} (h : k < l.length) (h2 : p l[k] = true) (i : Int) : findP p (l.drop k) i = i := by
  rw [List.drop_eq_getElem_cons h, findP, if_pos h2]
theorem findP_no {p : AMail → Bool} {l : List AMail} {k : Nat} (h : k < l.length) (h2 : ¬ p l[k] = true) (i : Int) : findP p (l.drop k) i = findP p (l.drop (k + 1)) (i + 1) := by
  rw [List.drop_eq_getElem_cons h, findP, if_neg h2]
theorem findP_end (p : AMail → Bool) (l : List AMail) (i : Int) : findP p (l.drop l.length) i = -1 := by rw [List.drop_length]; rfl
theorem findU_P (u : Int) : ∀ (l : List AMail) (i : Int), findU u l i = findP (fun m => decide (m.uid = u)) l i
  | [], _ => rfl
  | m :: l, i => by
    rw [findU, findP, findU_P u l (i + 1)]
    by_cases h : m.uid = u
    · rw [if_pos h, if_pos (by simpa using h)]
    · rw [if_neg h, if_neg (by simpa using h)]
theorem findP_spec {p : AMail → Bool} : ∀ (l : List AMail) (i : Int), (findP p l i = -1 ∧ ∀ m ∈ l, ¬ p m = true) ∨ ∃ (k : Nat) (h : k < l.length), findP p l i = i + k ∧ p l[k] = true ∧ ∀ m ∈ l.take k, ¬ p m = true
  | [], _ => .inl ⟨rfl, fun m hm => by cases hm⟩
  | m :: l, i => by
    rw [findP]
    by_cases h : p m = true
    · rw [if_pos h]
      exact .inr ⟨0, by simp, by simp, h, fun z hz => by cases hz⟩
    · rw [if_neg h]
      rcases findP_spec (p := p) l (i + 1) with ⟨h1, h2⟩ | ⟨k, hk, h1, h2, h3⟩
      · refine .inl ⟨h1, fun z hz => ?_⟩
        rcases List.mem_cons.1 hz with rfl | hz
        · exact h
        · exact h2 z hz
      · refine .inr ⟨k + 1, by simp; omega, by rw [h1]; push_cast; omega, h2, fun z hz => ?_⟩
        rw [List.take_succ_cons] at hz
        rcases List.mem_cons.1 hz with rfl | hz
        · exact h
        · exact h3 z hz
set_option maxHeartbeats 1000000 in
set_option maxRecDepth 100000 in
theorem sameUid_calls (m : AMail) (u : Int) (pb : Nat) (w : World) (hp : w.cell? ⟨pb, 2, none⟩ = some (.int .i64 u)) (hpb : pb < w.heap.size) :
    Calls Tryd.prog 95 #[.agg #[.int .i64 m.uid, .int .i64 m.flags, .string m.text], .pointer (some ⟨pb, 0, none⟩)] w fun e w' => e = .returned (.bool (decide (m.uid = u))) ∧ Below w.heap.size w w' := by
  have hq : (m.uid == u) = decide (m.uid = u) := rfl
  generalize decide (m.uid = u) = d at *
  go_enter Tryd.func95, Tryd.ntmps95
  go_wp2_with fail
  go_ret
  exact ⟨(by first | rfl | (simp; done) | (simp [*]; done) | (rw [if_pos (by omega)]; first | rfl | (simp; done)) | (rw [if_neg (by omega)]; first | rfl | (simp; done)) | (simp; omega)), (by repeat (first | exact Below.refl _ _ | apply below_alloc | apply pw_below_drewN | apply below_drew1 | (refine Below.setCell ?_ (by first | (simp; done) | (simp; omega) | omega) _) ))⟩
theorem and8 (f : Int) (h0 : 0 ≤ f) (h1 : f ≤ 31) : (bits .and .i64 f 8 != 0) = !decide (f / 8 % 2 = 0) := by
  obtain ⟨n, rfl⟩ := Int.eq_ofNat_of_zero_le h0
  have hn : n ≤ 31 := by omega
  rcases (by omega : n = 0 ∨ n = 1 ∨ n = 2 ∨ n = 3 ∨ n = 4 ∨ n = 5 ∨ n = 6 ∨ n = 7 ∨ n = 8 ∨ n = 9 ∨ n = 10 ∨ n = 11 ∨ n = 12 ∨ n = 13 ∨ n = 14 ∨ n = 15 ∨ n = 16 ∨ n = 17 ∨ n = 18 ∨ n = 19 ∨ n = 20 ∨ n = 21 ∨ n = 22 ∨ n = 23 ∨ n = 24 ∨ n = 25 ∨ n = 26 ∨ n = 27 ∨ n = 28 ∨ n = 29 ∨ n = 30 ∨ n = 31) with h | h | h | h | h | h | h | h | h | h | h | h | h | h | h | h | h | h | h | h | h | h | h | h | h | h | h | h | h | h | h | h <;> subst h <;> first | rfl | decide +kernel
set_option maxHeartbeats 1000000 in
set_option maxRecDepth 100000 in
theorem deleted_calls (m : AMail) (w : World) (h0 : 0 ≤ m.flags) (h1 : m.flags ≤ 31) :
    Calls Tryd.prog 93 #[.agg #[.int .i64 m.uid, .int .i64 m.flags, .string m.text]] w fun e w' => e = .returned (.bool (!keepM m)) ∧ Below w.heap.size w w' := by
  have hq := and8 m.flags h0 h1
  unfold keepM
  generalize (!decide (m.flags / 8 % 2 = 0)) = d at *
  go_enter Tryd.func93, Tryd.ntmps93
  go_wp2_with fail
  go_ret
  exact ⟨(by first | rfl | (simp; done) | (simp [*]; done) | (rw [if_pos (by omega)]; first | rfl | (simp; done)) | (rw [if_neg (by omega)]; first | rfl | (simp; done)) | (simp; omega)), (by repeat (first | exact Below.refl _ _ | apply below_alloc | apply pw_below_drewN | apply below_drew1 | (refine Below.setCell ?_ (by first | (simp; done) | (simp; omega) | omega) _) ))⟩
set_option maxHeartbeats 1000000 in
set_option maxRecDepth 100000 in
theorem indexU_calls (u : Int) (pb : Nat) (A : Option Addr) (c : Nat) (l : List AMail) (p : AMail → Bool) (w : World) (hr : Kd.C kAMail w A l.length l) (hp : p = fun m => decide (m.uid = u)) (hc : w.cell? ⟨pb, 2, none⟩ = some (.int .i64 u)) (hpb : pb < w.heap.size) :
    Calls Tryd.prog 94 #[.slice A l.length c, .func (.func 95) #[] #[.pointer (some ⟨pb, 0, none⟩)]] w fun e w' => e = .returned (.int .i64 (findP p l 0)) ∧ Below w.heap.size w w' := by
  have h63 := hr.2.1
  generalize hR : findP p l 0 = R
  go_enter Tryd.func94, Tryd.ntmps94
  go_wp2_with fail
  go_loopw [8] (fun i wr => ∃ k : Nat, k ≤ l.length ∧ i = .int .i64 k ∧ findP p (l.drop k) k = R ∧ Below w.heap.size w wr) (fun i _ => l.length - (intOf i).toNat)
  case atStart => exact ⟨0, Nat.zero_le _, rfl, hR, Below.refl _ _⟩
  case round =>
    clear hR
    obtain ⟨k, hk, rfl, hR, hB⟩ := hrel
    by_cases hlt : k < l.length
    · obtain ⟨ad, e1, hx0, hxj⟩ := flat_at (Kd.C_below hr hB) k hlt
      subst e1
      have q0 := hx0 _ rfl; have q1 := hxj 1 _ (by decide) rfl; have q2 := hxj 2 _ (by decide) rfl
      clear hx0 hxj
      have i0 : (0 : Int) ≤ (k : Int) := by omega
      have i1 : (k : Int) < (l.length : Int) := by omega
      have hy := fun h => findP_yes (p := p) hlt h (k : Int)
      have hn := fun h => findP_no (p := p) hlt h (k : Int)
      rw [hR] at hy hn
      have hmem := List.getElem_mem hlt
      generalize l[k] = x at *
      have HC := (by rw [hp]; exact sameUid_calls x u pb wr ((hB.cell (p := ⟨pb, 2, none⟩) hpb).trans hc) (Nat.lt_of_lt_of_le hpb hB.size) : Calls Tryd.prog 95 #[.agg #[.int .i64 x.uid, .int .i64 x.flags, .string x.text], .pointer (some ⟨pb, 0, none⟩)] wr fun e w' => e = .returned (.bool (p x)) ∧ Below wr.heap.size wr w')
      by_cases he : p x = true
      · have := hy he
        subst this
        rw [he] at HC
        replace HC := Lib.hid HC
        clear hy hn he hR
        go_wp2_with fail
        refine HC.out.mono ?_
        rintro e w2 ⟨rfl, hb2⟩
        go_wp2_with fail
        go_ret
        exact ⟨(by first | rfl | (simp; done) | (simp [*]; done) | (rw [if_pos (by omega)]; first | rfl | (simp; done)) | (rw [if_neg (by omega)]; first | rfl | (simp; done)) | (simp; omega)), hB.trans (hb2.mono hB.size)⟩
      · have hn2 := Lib.hid (hn he)
        rw [Bool.eq_false_iff.2 he] at HC
        replace HC := Lib.hid HC
        clear hy hn he hR
        go_wp2_with fail
        refine HC.out.mono ?_
        rintro e w2 ⟨rfl, hb2⟩
        go_wp2_with fail
        go_roundw
        case rel => exact ⟨k + 1, hlt, by go_num, by rw [hn2.out]; rfl, hB.trans (hb2.mono hB.size)⟩
        case measure => simp [intOf]; omega
    · obtain rfl : k = l.length := by omega
      rw [findP_end] at hR
      subst hR
      have i1 : ¬ (l.length : Int) < (l.length : Int) := by omega
      go_wp2_with fail
      go_ret
      exact ⟨(by first | rfl | (simp; done) | (simp [*]; done) | (rw [if_pos (by omega)]; first | rfl | (simp; done)) | (rw [if_neg (by omega)]; first | rfl | (simp; done)) | (simp; omega)), hB⟩
set_option maxHeartbeats 1000000 in
set_option maxRecDepth 100000 in
theorem indexD_calls  (A : Option Addr) (c : Nat) (l : List AMail) (p : AMail → Bool) (w : World) (hr : Kd.C kAMail w A l.length l) (hp : p = fun m => !keepM m) (hf : ∀ m ∈ l, 0 ≤ m.flags ∧ m.flags ≤ 31) :
    Calls Tryd.prog 94 #[.slice A l.length c, .func (.func 93) #[] #[]] w fun e w' => e = .returned (.int .i64 (findP p l 0)) ∧ Below w.heap.size w w' := by
  have h63 := hr.2.1
  generalize hR : findP p l 0 = R
  go_enter Tryd.func94, Tryd.ntmps94
  go_wp2_with fail
  go_loopw [8] (fun i wr => ∃ k : Nat, k ≤ l.length ∧ i = .int .i64 k ∧ findP p (l.drop k) k = R ∧ Below w.heap.size w wr) (fun i _ => l.length - (intOf i).toNat)
  case atStart => exact ⟨0, Nat.zero_le _, rfl, hR, Below.refl _ _⟩
  case round =>
    clear hR
    obtain ⟨k, hk, rfl, hR, hB⟩ := hrel
    by_cases hlt : k < l.length
    · obtain ⟨ad, e1, hx0, hxj⟩ := flat_at (Kd.C_below hr hB) k hlt
      subst e1
      have q0 := hx0 _ rfl; have q1 := hxj 1 _ (by decide) rfl; have q2 := hxj 2 _ (by decide) rfl
      clear hx0 hxj
      have i0 : (0 : Int) ≤ (k : Int) := by omega
      have i1 : (k : Int) < (l.length : Int) := by omega
      have hy := fun h => findP_yes (p := p) hlt h (k : Int)
      have hn := fun h => findP_no (p := p) hlt h (k : Int)
      rw [hR] at hy hn
      have hmem := List.getElem_mem hlt
      generalize l[k] = x at *
      have HC := (by rw [hp]; exact deleted_calls x wr (hf x hmem).1 (hf x hmem).2 : Calls Tryd.prog 93 #[.agg #[.int .i64 x.uid, .int .i64 x.flags, .string x.text]] wr fun e w' => e = .returned (.bool (p x)) ∧ Below wr.heap.size wr w')
      by_cases he : p x = true
      · have := hy he
        subst this
        rw [he] at HC
        replace HC := Lib.hid HC
        clear hy hn he hR
        go_wp2_with fail
        refine HC.out.mono ?_
        rintro e w2 ⟨rfl, hb2⟩
        go_wp2_with fail
        go_ret
        exact ⟨(by first | rfl | (simp; done) | (simp [*]; done) | (rw [if_pos (by omega)]; first | rfl | (simp; done)) | (rw [if_neg (by omega)]; first | rfl | (simp; done)) | (simp; omega)), hB.trans (hb2.mono hB.size)⟩
      · have hn2 := Lib.hid (hn he)
        rw [Bool.eq_false_iff.2 he] at HC
        replace HC := Lib.hid HC
        clear hy hn he hR
        go_wp2_with fail
        refine HC.out.mono ?_
        rintro e w2 ⟨rfl, hb2⟩
        go_wp2_with fail
        go_roundw
        case rel => exact ⟨k + 1, hlt, by go_num, by rw [hn2.out]; rfl, hB.trans (hb2.mono hB.size)⟩
        case measure => simp [intOf]; omega
    · obtain rfl : k = l.length := by omega
      rw [findP_end] at hR
      subst hR
      have i1 : ¬ (l.length : Int) < (l.length : Int) := by omega
      go_wp2_with fail
      go_ret
      exact ⟨(by first | rfl | (simp; done) | (simp [*]; done) | (rw [if_pos (by omega)]; first | rfl | (simp; done)) | (rw [if_neg (by omega)]; first | rfl | (simp; done)) | (simp; omega)), hB⟩
end Go.Proofs.YtijdghplfhfpaaaDoor.H

/- Boxes: slices.DeleteFunc over mails that a call owns. -/
namespace Go.Proofs.YtijdghplfhfpaaaDoor.H
open Go.RowKit Go.Proofs.YtijdghplfhfpaaaDoorW.PrintWords Go.Proofs.YtijdghplfhfpaaaDoorW.PrintLast Go.Proofs.YtijdghplfhfpaaaDoor.U
set_option linter.unusedVariables false
set_option linter.unusedSimpArgs false
section
variable {w w1 : World} {base g n cap i : Nat} {l L : List AMail} {ok : Nat → Prop}
theorem row_cells (h : Kd.R kAMail 84 w base ok (.slice (some ⟨g, 0, none⟩) n cap) L) (o : Nat) (ho : o < cap * 3) : (∃ u, w.cell? ⟨g, o, none⟩ = some u) ∧ w.frozen? ⟨g, o, none⟩ = false := by
  obtain ⟨inner, hown⟩ := Kd.R_own h
  rcases hown.2 with ⟨h1, _⟩ | ⟨g', cap', cur, h1, hb, hh, hnc, hm, hs, ht⟩
  · cases h1
  · injection h1 with h2 h3 h4
    injection h2 with h2
    injection h2 with h2 _ _
    subst h2 h4
    have hs' : cur.size = cap * 3 := hs
    refine ⟨⟨cur[o]'(by omega), ?_⟩, ?_⟩
    · simp [World.cell?, hh, show o < cur.size by omega]
    · simp [World.frozen?, hh]
theorem grown_cells {w : World} {g : Nat} : ∀ (us : List Value) (o : Nat) (w1 : World), w.grownBy w1 (some g) → w.grownBy (w1.setCells g o us) (some g)
  | [], _, _, h => h
  | u :: us, o, w1, h => grown_cells us (o + 1) (w1.setCell ⟨g, o, none⟩ u) (grown_set h o u)
/-- What is written behind a row's end leaves the row. -/
theorem row_beyond1 (h : Kd.R kAMail 84 w base ok (.slice (some ⟨g, 0, none⟩) n cap) L) (o : Nat) (ho : n * 3 ≤ o) (u : Value) : Kd.R kAMail 84 (w.setCell ⟨g, o, none⟩ u) base ok (.slice (some ⟨g, 0, none⟩) n cap) L := by
  obtain ⟨hn, _, _⟩ := Kd.R_reads' h
  subst hn
  obtain ⟨h0, inner, hown, hr⟩ := h
  refine ⟨h0, inner, ?_, hr⟩
  have h2 := (hown.stored o u).1
  rwa [List.set_eq_of_length_le (by rw [hown.1]; exact ho)] at h2
theorem row_beyond : ∀ (us : List Value) (o : Nat) {w : World}, Kd.R kAMail 84 w base ok (.slice (some ⟨g, 0, none⟩) n cap) L → n * 3 ≤ o → Kd.R kAMail 84 (w.setCells g o us) base ok (.slice (some ⟨g, 0, none⟩) n cap) L
  | [], _, _, h, _ => h
  | u :: us, o, w, h, ho => row_beyond us (o + 1) (row_beyond1 h o ho u) (by omega)
/-- s[i] = x -/
theorem row_store (h : Kd.R kAMail 84 w base ok (.slice (some ⟨g, 0, none⟩) n cap) L) (hi : i < n) (x : AMail) :
    Kd.R kAMail 84 (((w.setCell ⟨g, i * 3, none⟩ (.int .i64 x.uid)).setCell ⟨g, i * 3 + 1, none⟩ (.int .i64 x.flags)).setCell ⟨g, i * 3 + 2, none⟩ (.string x.text)) base ok (.slice (some ⟨g, 0, none⟩) n cap) (L.set i x) := by
  obtain ⟨hn, hnc, _⟩ := Kd.R_reads' h
  obtain ⟨⟨u0, z0⟩, _⟩ := row_cells h (i * 3) (by omega)
  obtain ⟨⟨u1, z1⟩, _⟩ := row_cells h (i * 3 + 1) (by omega)
  obtain ⟨⟨u2, z2⟩, _⟩ := row_cells h (i * 3 + 2) (by omega)
  exact (Kd.R_seg h (i : Int) (Int.natCast_nonneg i) (by omega) (c := [u0, u1, u2]) (seg := [.int .i64 x.uid, .int .i64 x.flags, .string x.text]) (j := 0) (x' := x) (okp := fun _ => False) rfl (fun j u hu => by
    match j, hu with
    | 0, hu => obtain rfl := Option.some.inj hu; exact z0
    | 1, hu => obtain rfl := Option.some.inj hu; exact z1
    | 2, hu => obtain rfl := Option.some.inj hu; exact z2
    | j + 3, hu => simp at hu) (by show 0 + 3 ≤ 3; omega) rfl (fun _ hk => hk.elim)).1
/-- clear(s[i:]) -/
theorem clear_run {P : Program} (w : World) (t e ty : TypeId) (z : Value) (ht : P.underlying t = some (.slice e)) (hv : ∀ w, (zeroValue e).run P w = .ok z w) (k : Nat) (hz : z.cells.size = k) (h1 : ∀ u ∈ z.cells.toList, u.oneCell' = true) (b o n c : Nat) (hn : 0 < n)
    (hc : ∀ j, j < n * k → (w.cell? ⟨b, o + j, none⟩).isSome = true) (hf : ∀ j, j < n * k → w.frozen? ⟨b, o + j, none⟩ = false) :
    (Builtin.clear_ #[t] ty #[.slice (some ⟨b, o, none⟩) n c]).run P w = .ok (.tuple #[]) (w.setCells b o (Builtin.zeroCells z.cells n).toList) := by
  have hlen : (Builtin.zeroCells z.cells n).toList.length = n * k := by simp [Builtin.zeroCells, hz]
  have hst := run_storeCells_cells (P := P) b o (Builtin.zeroCells z.cells n).toList 0 w (by rw [hlen]; simpa using hc) (by rw [hlen]; simpa using hf) (by
    intro v hv'
    simp only [Builtin.zeroCells, Array.toList_map, List.mem_map] at hv'
    obtain ⟨q, hq, rfl⟩ := hv'
    have hq2 : q < n * z.cells.size := by simpa using hq
    have hpos : 0 < z.cells.size := by
      rcases Nat.eq_zero_or_pos z.cells.size with h0 | h0
      · rw [h0] at hq2; omega
      · exact h0
    have hm : q % z.cells.size < z.cells.size := Nat.mod_lt _ hpos
    rw [getElem!_pos z.cells (q % z.cells.size) hm]
    exact h1 _ (by simp))
  simp only [Nat.add_zero] at hst
  obtain ⟨m, rfl⟩ : ∃ m, n = m + 1 := ⟨n - 1, by omega⟩
  simp [Builtin.clear_, run_underlying ht, hv, hst]
end
theorem filter_take {l L : List AMail} {i j : Nat} {x : AMail} (hi : i < j) (hj : j < l.length) (hL : L.length = l.length) (h1 : L.take i = (l.take j).filter keepM) (hx : l[j] = x) (hk : keepM x = true) : (L.set i x).take (i + 1) = (l.take (j + 1)).filter keepM := by
  rw [filter_step keepM hj, hx, if_pos hk, ← h1, List.take_succ_eq_append_getElem (by rw [List.length_set]; omega)]
  congr 1
  · rw [List.take_set_of_le (Nat.le_refl _)]
  · rw [List.getElem_set_self]
theorem filter_skip {l L : List AMail} {i j : Nat} {x : AMail} (hj : j < l.length) (h1 : L.take i = (l.take j).filter keepM) (hx : l[j] = x) (hk : ¬ keepM x = true) : L.take i = (l.take (j + 1)).filter keepM := by
  rw [filter_step keepM hj, hx, if_neg hk, List.append_nil, h1]
theorem drop_at {l L : List AMail} {j : Nat} (hj : j < l.length) (hL : L.length = l.length) (h : L.drop j = l.drop j) : L[j]'(by omega) = l[j] ∧ L.drop (j + 1) = l.drop (j + 1) := by
  rw [List.drop_eq_getElem_cons (by omega), List.drop_eq_getElem_cons hj] at h
  injection h with h1 h2
  exact ⟨h1, h2⟩
set_option maxHeartbeats 2000000 in
set_option maxRecDepth 100000 in
theorem deleteFunc_calls (base : Nat) (ok : Nat → Prop) (v : Value) (l : List AMail) (w : World) (hR : Kd.R kAMail 84 w base ok v l) (hbase : base ≤ w.heap.size) (hf : ∀ m ∈ l, 0 ≤ m.flags ∧ m.flags ≤ 31) (hl : l.length ≤ 30) :
    Calls Tryd.prog 92 #[v, .func (.func 93) #[] #[]] w fun e w' => ∃ v' : Value, e = .returned v' ∧ Kd.R kAMail 84 w' base ok v' (l.filter keepM) ∧ w.grownBy w' v.ownBlock := by
  rcases findP_spec (p := fun m => !keepM m) l 0 with ⟨h1, h2⟩ | ⟨k, hk, h1, h2, h3⟩
  · have hfl : l.filter keepM = l := List.filter_eq_self.2 fun m hm => by have := h2 m hm; simpa using this
    rw [hfl]
    obtain ⟨A, c, rfl, hlc, hC⟩ := Kd.R_reads hR
    have HI := indexD_calls A c l (fun m => !keepM m) w hC rfl hf
    rw [h1] at HI
    replace HI := Lib.hid HI
    go_enter Tryd.func92, Tryd.ntmps92
    go_wp2_with fail
    refine HI.out.mono ?_
    rintro e w1 ⟨rfl, hb1⟩
    go_wp2_with fail
    go_ret
    exact ⟨_, rfl, Kd.R_below hR hb1, grown_of_below hb1 _⟩
  · obtain ⟨g, cap, rfl, hgb, hgl, _⟩ := Kd.R_form hR (by omega)
    obtain ⟨_, hcap, hC⟩ := Kd.R_reads' hR
    have HI := indexD_calls (some ⟨g, 0, none⟩) cap l (fun m => !keepM m) w hC rfl hf
    rw [h1, Int.zero_add] at HI
    replace HI := Lib.hid HI
    have hstart : l.take k = (l.take (k + 1)).filter keepM := by
      rw [filter_step keepM hk, if_neg (by simpa using h2), List.append_nil]
      exact (List.filter_eq_self.2 fun m hm => by have := h3 m hm; simpa using this).symm
    have kb : ((k : Int) == -1) = false := by rw [beq_eq_false_iff_ne]; omega
    obtain ⟨i0, hi0, hzz⟩ := Option.map_eq_some_iff.1 (rowAMail : RowT Tryd.prog _ _ _ _ _).hinfo
    simp only [Prod.mk.injEq] at hzz
    go_enter Tryd.func92, Tryd.ntmps92
    go_wp2_with fail
    refine HI.out.mono ?_
    rintro e w1 ⟨rfl, hb1⟩
    have hz1 := hb1.size
    go_wp2_with fail
    go_loopw [5, 6] (fun iv jv wr => ∃ (i j : Nat) (L : List AMail), iv = .int .i64 i ∧ jv = .int .i64 j ∧ i < j ∧ j ≤ l.length ∧ L.length = l.length ∧ L.take i = (l.take j).filter keepM ∧ L.drop j = l.drop j ∧ Kd.R kAMail 84 wr base ok (.slice (some ⟨g, 0, none⟩) l.length cap) L ∧ w.grownBy wr (some g)) (fun _ jv _ => l.length - (intOf jv).toNat)
    case atStart => exact ⟨k, k + 1, l, rfl, by go_num, by omega, by omega, rfl, hstart, rfl, Kd.R_below hR hb1, grown_of_below hb1 _⟩
    case round =>
      obtain ⟨i, j, L, rfl, rfl, hij, hj, hL, ht, hd, hRL, hG⟩ := hrel
      have hzr := hG.size
      by_cases hlt : j < l.length
      · obtain ⟨hx, hd2⟩ := drop_at hlt hL hd
        obtain ⟨ad, e1, hx0, hxj⟩ := flat_at (Kd.R_reads' hRL).2.2 j (by omega)
        obtain rfl := Option.some.inj e1
        rw [hx] at hx0 hxj
        rw [add_plain] at hx0 hxj
        have hfx := hf _ (List.getElem_mem hlt)
        have q0 := hx0 _ rfl; have q1 := hxj 1 _ (by decide) rfl; have q2 := hxj 2 _ (by decide) rfl
        clear hx0 hxj
        obtain ⟨x, hlx⟩ : ∃ x, l[j] = x := ⟨_, rfl⟩
        rw [hlx] at q0 q1 q2 hfx
        replace hlx := Lib.hid hlx
        have HD := fun W => deleted_calls x W hfx.1 hfx.2
        have j0 : (0 : Int) ≤ (j : Int) := by omega
        have j1 : (j : Int) < (l.length : Int) := by omega
        have i1 : (0 : Int) ≤ (i : Int) := by omega
        have i2 : (i : Int) < (l.length : Int) := by omega
        have ea : (⟨g, 0, none⟩ : Addr).add (j * 3) = ⟨g, j * 3, none⟩ := add_plain _ _
        have eb : (⟨g, 0, none⟩ : Addr).add (i * 3) = ⟨g, i * 3, none⟩ := add_plain _ _
        have hX := Blk.made wr #[.int .i64 x.uid, .int .i64 x.flags, .string x.text] 84
        have hgr : g < wr.heap.size := by omega
        by_cases hkp : keepM x = true
        · rw [hkp] at HD
          replace HD := Lib.hid HD
          go_wp2_with fail
          refine (HD.out _).mono ?_
          rintro e w2 ⟨rfl, hb2⟩
          have hX2 := hX.below hb2 (by simp)
          have y0 := hX2.at 0 _ rfl
          have y1 := hX2.at 1 _ rfl
          have y2 := hX2.at 2 _ rfl
          have hb3 : Below wr.heap.size wr w2 := Below.trans (show Below wr.heap.size wr _ from (by repeat (first | exact Below.refl _ _ | apply below_alloc | apply pw_below_drewN | apply below_drew1 | (refine Below.setCell ?_ (by first | (simp; done) | (simp; omega) | omega) _) ))) (hb2.mono (by simp))
          have hRL2 := Kd.R_below hRL hb3
          obtain ⟨⟨u0, z0⟩, f0⟩ := row_cells hRL2 (i * 3) (by omega)
          obtain ⟨⟨u1, z1⟩, f1⟩ := row_cells hRL2 (i * 3 + 1) (by omega)
          obtain ⟨⟨u2, z2⟩, f2⟩ := row_cells hRL2 (i * 3 + 2) (by omega)
          have hRs := row_store hRL2 (show i < l.length by omega) x
          have hGs := grown_set (grown_set (grown_set (grown_trans hG (grown_of_below hb3 _)) (i * 3) (.int .i64 x.uid)) (i * 3 + 1) (.int .i64 x.flags)) (i * 3 + 2) (.string x.text)
          have hts := filter_take hij hlt hL ht hlx.out hkp
          have hds : (L.set i x).drop (j + 1) = l.drop (j + 1) := by rw [List.drop_set_of_lt (by omega)]; exact hd2
          clear hR hC hb1 hb2 hb3 hRL2 hRL hX hX2 hG HI hstart q0 q1 q2
          go_wp2_with fail
          go_roundw
          case rel => exact ⟨i + 1, j + 1, L.set i x, by go_num, by go_num, by omega, hlt, by rw [List.length_set]; exact hL, hts, hds, hRs, hGs⟩
          case measure => simp [intOf]; omega
        · rw [Bool.eq_false_iff.2 hkp] at HD
          replace HD := Lib.hid HD
          go_wp2_with fail
          refine (HD.out _).mono ?_
          rintro e w2 ⟨rfl, hb2⟩
          have hb3 : Below wr.heap.size wr w2 := Below.trans (show Below wr.heap.size wr _ from (by repeat (first | exact Below.refl _ _ | apply below_alloc | apply pw_below_drewN | apply below_drew1 | (refine Below.setCell ?_ (by first | (simp; done) | (simp; omega) | omega) _) ))) (hb2.mono (by simp))
          go_wp2_with fail
          go_roundw
          case rel => exact ⟨i, j + 1, L, rfl, by go_num, by omega, hlt, hL, filter_skip hlt ht hlx.out hkp, hd2, Kd.R_below hRL hb3, grown_trans hG (grown_of_below hb3 _)⟩
          case measure => simp [intOf]; omega
      · obtain rfl : j = l.length := by omega
        rw [List.take_length] at ht
        have j1 : ¬ (l.length : Int) < (l.length : Int) := by omega
        have i1 : (0 : Int) ≤ (i : Int) := by omega
        have i2 : (i : Int) ≤ (l.length : Int) := by omega
        have i3 : (i : Int) ≤ (cap : Int) := by omega
        have hcf := cut_from (P := Tryd.prog) 75 84 .i64 rowAMail.ht hi0 3 hzz.2.1 (some ⟨g, 0, none⟩) l.length cap (i : Int) i1 i2
        rw [Int.toNat_natCast, if_neg (by omega)] at hcf
        have ea : (⟨g, 0, none⟩ : Addr).add (i * 3) = ⟨g, i * 3, none⟩ := add_plain _ _
        simp only [Option.map_some, ea] at hcf
        have hcl := fun ty => clear_run (P := Tryd.prog) wr 75 84 ty (.agg #[.int .i64 0, .int .i64 0, .string ⟨#[]⟩]) rowAMail.ht (fun _ => by kernel_rfl) 3 rfl (by decide) g (i * 3) (l.length - i) (cap - i) (by omega)
          (fun j hj => by obtain ⟨⟨u, h⟩, _⟩ := row_cells hRL (i * 3 + j) (by omega); rw [h]; rfl) (fun j hj => (row_cells hRL (i * 3 + j) (by omega)).2)
        generalize (Builtin.zeroCells (Value.agg #[.int .i64 0, .int .i64 0, .string ⟨#[]⟩]).cells (l.length - i)).toList = us at *
        have hRt := row_beyond us (i * 3) (Kd.R_take hRL (m := i) (by omega)) (Nat.le_refl _)
        have hGt := grown_cells us (i * 3) wr hG
        rw [ht] at hRt
        clear hR hC hb1 hRL hG HI hstart hd hzz hi0
        go_wp2_with fail
        go_ret
        exact ⟨_, rfl, hRt, hGt⟩
end Go.Proofs.YtijdghplfhfpaaaDoor.H

/- Boxes: box.apply. -/
namespace Go.Proofs.YtijdghplfhfpaaaDoor.H
open Go.RowKit Go.Proofs.YtijdghplfhfpaaaDoorW.PrintWords Go.Proofs.YtijdghplfhfpaaaDoorW.PrintLast Go.Proofs.YtijdghplfhfpaaaDoor.U
set_option linter.unusedVariables false
set_option linter.unusedSimpArgs false
section
variable {ops : Array Oper} {o : Oper} {a : Act} {Q : Exit → Act → World → Prop} {Kc : Act → World → Prop}
theorem entry_step (base : Nat) {W : World} (hw : Region.wanted o (yielded ops a.tmps) = true) (s x : Operand)
    (ho : o.op = .call { callee := .builtin .append, args := #[s, x], argTypes := #[23, 23] })
    (v : Value) (xs : List AEntry) (p : AEntry) (ok : Nat → Prop) (hs : a.eval s = v) (hx : a.eval x = .slice (some ⟨W.heap.size, 0, none⟩) 1 1) (hfresh : ∀ k, W.heap.size ≤ k → ok k)
    (HO : Kd.R kAEntry 40 W base ok v xs) (hbase : base ≤ W.heap.size) (hl : (xs.length + 1) * 72 ≤ 140737488355328)
    (h : ∀ v1 w1, Kd.R kAEntry 40 w1 base ok v1 (xs ++ [p]) → Below base W w1 → W.grownBy w1 v.ownBlock → Kc (a.put o.dst v1) w1) :
    if Region.wanted o (yielded ops a.tmps) = true then Oper.wp Tryd.prog o a (W.alloc (.cells #[.int .i64 p.kind, .string p.box, .int .i64 p.uid, .int .i64 p.flags, .string p.to_, .string p.text] 40)) Kc Q else Kc (a.put o.dst undef) (W.alloc (.cells #[.int .i64 p.kind, .string p.box, .int .i64 p.uid, .int .i64 p.flags, .string p.to_, .string p.text] 40)) :=
  Kd.R_append_step kAEntry (w0 := W) base hw s x 23 40 _ 72 ho rowAEntry.ht rowAEntry.hinfo rowAEntry.hz rowAEntry.hs0 rowAEntry.hb0 v xs p [.int .i64 p.kind, .string p.box, .int .i64 p.uid, .int .i64 p.flags, .string p.to_, .string p.text] ok (fun _ => False) hs hx rfl (fun _ h => h.elim) hfresh HO (Below.refl _ _) hbase hl
    (fun v1 w1 hR hb hg _ => h v1 w1 hR hb hg)
theorem box_step (base : Nat) {W : World} (hw : Region.wanted o (yielded ops a.tmps) = true) (s x : Operand)
    (ho : o.op = .call { callee := .builtin .append, args := #[s, x], argTypes := #[22, 22] })
    (v : Value) (xs : List ABox) (nm : ByteArray) (nx : Int) (ok : Nat → Prop) (hs : a.eval s = v) (hx : a.eval x = .slice (some ⟨W.heap.size, 0, none⟩) 1 1) (hfresh : ∀ k, W.heap.size ≤ k → ok k)
    (HO : Kd.S kBox 77 W base ok v xs) (hbase : base ≤ W.heap.size) (hl : (xs.length + 1) * 48 ≤ 140737488355328)
    (h : ∀ v1 w1, Kd.S kBox 77 w1 base ok v1 (xs ++ [(nm, nx, [])]) → Below base W w1 → W.grownBy w1 v.ownBlock → Kc (a.put o.dst v1) w1) :
    if Region.wanted o (yielded ops a.tmps) = true then Oper.wp Tryd.prog o a (W.alloc (.cells #[.string nm, .int .i64 nx, .slice none 0 0] 77)) Kc Q else Kc (a.put o.dst undef) (W.alloc (.cells #[.string nm, .int .i64 nx, .slice none 0 0] 77)) :=
  Kd.S_append_step kBox (w0 := W) base hw s x 22 77 (.agg #[.string ⟨#[]⟩, .int .i64 0, .slice none 0 0]) 48 ho Tryd.underlying22 (by kernel_rfl) rfl (by decide) (by decide) v xs (nm, nx, []) [.string nm, .int .i64 nx, .slice none 0 0] ok (fun _ => False) hs hx
    ⟨[.string nm], [.int .i64 nx, .slice none 0 0], rfl, rfl, ⟨[.int .i64 nx], [.slice none 0 0], rfl, rfl, ⟨_, rfl, Kd.R_nil _ _ _ _ _⟩⟩⟩
    (fun _ h => h.elim) hfresh (Kd.S_mono HO (fun k hk => ⟨hk, fun h => h⟩)) (Below.refl _ _) hbase hl (fun v1 w1 hR hb hg _ => h v1 w1 hR hb hg)
end
theorem x_at {W : World} {b : Nat} {k : Int} {bx : ByteArray} {u f : Int} {to_ tx : ByteArray} (h : Blk W b [.int .i64 k, .string bx, .int .i64 u, .int .i64 f, .string to_, .string tx]) :
    W.cell? ⟨b, 0, none⟩ = some (.int .i64 k) ∧ W.cell? ⟨b, 1, none⟩ = some (.string bx) ∧ W.cell? ⟨b, 2, none⟩ = some (.int .i64 u) ∧ W.cell? ⟨b, 3, none⟩ = some (.int .i64 f) ∧ W.cell? ⟨b, 4, none⟩ = some (.string to_) ∧ W.cell? ⟨b, 5, none⟩ = some (.string tx) :=
  ⟨h.at 0 _ rfl, h.at 1 _ rfl, h.at 2 _ rfl, h.at 3 _ rfl, h.at 4 _ rfl, h.at 5 _ rfl⟩
set_option maxHeartbeats 2000000 in
set_option maxRecDepth 100000 in
theorem apply_spool (pb : Nat) (bx : ByteArray) (u f : Int) (to_ tx : ByteArray) (base : Nat) (bs : List ABox) (es : List AEntry) (w : World) (h : StB w base pb bs es) (hinv : InvS bs es) :
    Calls Tryd.prog 55 #[.pointer (some ⟨pb, 0, none⟩), .agg #[.int .i64 6, .string bx, .int .i64 u, .int .i64 f, .string to_, .string tx]] w fun e w' => e = .returned (.int .i64 (entV bs es ⟨6, bx, u, f, to_, tx⟩).1) ∧ StB w' base pb (entV bs es ⟨6, bx, u, f, to_, tx⟩).2.1 (entV bs es ⟨6, bx, u, f, to_, tx⟩).2.2 ∧ Below base w w' := by
  have hbase := h.bases
  have hpb := h.lt
  have hev : entV bs es ⟨6, bx, u, f, to_, tx⟩ = if 20 ≤ es.length then (5, bs, es) else (0, bs, es ++ [⟨6, bx, u, f, to_, tx⟩]) := if_pos rfl
  rw [hev]
  clear hev
  have h20 := hinv.2.1
  by_cases hf : es.length = 20
  · rw [if_pos (by omega)]
    have e20 : ((es.length : Int) == 20) = true := by rw [beq_iff_eq]; omega
    obtain ⟨vB, vS, hk, hp, hS, hE⟩ := h
    obtain ⟨A, c, rfl, hc, hC⟩ := Kd.S_reads hS
    obtain ⟨A3, c3, rfl⟩ := Kd.R_slice hE
    have hEl := Kd.R_lt hE
    have hSl := Kd.S_lt hS
    obtain ⟨W1, hW1⟩ : ∃ W1 : World, W1 = w.alloc (.cells #[.int .i64 6, .string bx, .int .i64 u, .int .i64 f, .string to_, .string tx] 40) := ⟨_, rfl⟩
    have hX1 : Blk W1 w.heap.size [.int .i64 6, .string bx, .int .i64 u, .int .i64 f, .string to_, .string tx] := by rw [hW1]; exact Blk.made w _ _
    have hXT : W1.heap[w.heap.size]? = some (.cells #[.int .i64 6, .string bx, .int .i64 u, .int .i64 f, .string to_, .string tx] 40 (0, 0)) := by rw [hW1]; show (w.heap.push _)[w.heap.size]? = _; rw [Array.getElem?_push_size]
    have hb1 : Below w.heap.size w W1 := by rw [hW1]; exact (by repeat (first | exact Below.refl _ _ | apply below_alloc | apply pw_below_drewN | apply below_drew1 | (refine Below.setCell ?_ (by first | (simp; done) | (simp; omega) | omega) _) ))
    have hk1 := hk.below hb1 hpb
    have hz1 : W1.heap.size = w.heap.size + 1 := by rw [hW1]; simp
    have hC1 := Kd.C_below hC hb1
    have HF := fun W hr => find_calls A c bs bx W hr
    have d0 := cell_drew' (hk1.at 0 _ rfl)
    have d1 := cell_drew' (hX1.at 1 _ rfl)
    replace hW1 := Lib.hid hW1
    replace HF := Lib.hid HF
    go_enter Tryd.func55, Tryd.ntmps55
    go_wp2_with fail
    rw [← hW1.out]
    go_region_held3 (fun w' => w'.cell? ⟨pb, 0, none⟩ = some (.slice A bs.length c) ∧ w'.cell? ⟨w.heap.size, 1, none⟩ = some (.string bx)) (first | exact ⟨d0, d1⟩ | exact ⟨k0, k1⟩ | go_keep) ((go_at_call 47; refine (HF.out _ (Kd.C_below hC1 (by repeat (first | exact Below.refl _ _ | apply below_alloc | apply pw_below_drewN | apply below_drew1 | (refine Below.setCell ?_ (by first | (simp; done) | (simp; omega) | omega) _) )))).mono ?_; rintro e w5 ⟨rfl, hb5⟩; have k0 := (hb5.cell (lt_of_cell' d0)).trans d0; have k1 := (hb5.cell (lt_of_cell' d1)).trans d1))
    have hb6 : Below W1.heap.size W1 w5 := Below.trans (show Below W1.heap.size W1 W1.drew from (by repeat (first | exact Below.refl _ _ | apply below_alloc | apply pw_below_drewN | apply below_drew1 | (refine Below.setCell ?_ (by first | (simp; done) | (simp; omega) | omega) _) ))) (hb5.mono (by simp))
    have hz5 := hb6.size
    have hX5 := hX1.below hb6 (by omega)
    have hXT5 := (hb6.block w.heap.size (by omega)).trans hXT
    clear hXT
    have hk5 := hk1.below hb6 (by omega)
    have hS5 := Kd.S_below (Kd.S_below hS hb1) hb6
    have hE5 := Kd.R_below (Kd.R_below hE hb1) hb6
    have hB5 := (hb1.mono hbase).trans (hb6.mono (by omega))
    clear hX1 hk1 hC1 hb5 d0 d1 k0 k1 hk hS hE hC
    have m0 := hk5.at 0 _ rfl
    have m1 := hk5.at 1 _ rfl
    have x0 := hX5.at 0 _ rfl
    have x1 := hX5.at 1 _ rfl
    have x2 := hX5.at 2 _ rfl
    have x3 := hX5.at 3 _ rfl
    have x4 := hX5.at 4 _ rfl
    have x5 := hX5.at 5 _ rfl
    go_wp2_with fail
    go_ret
    exact ⟨(by first | rfl | (simp; done) | (simp [*]; done) | (rw [if_pos (by omega)]; first | rfl | (simp; done)) | (rw [if_neg (by omega)]; first | rfl | (simp; done)) | (simp; omega)), ⟨_, _, hk5, hp, hS5, hE5⟩, hB5⟩
  · rw [if_neg (by omega)]
    have e20 : ((es.length : Int) == 20) = false := by rw [beq_eq_false_iff_ne]; omega
    obtain ⟨vB, vS, hk, hp, hS, hE⟩ := h
    obtain ⟨A, c, rfl, hc, hC⟩ := Kd.S_reads hS
    obtain ⟨A3, c3, rfl⟩ := Kd.R_slice hE
    have hEl := Kd.R_lt hE
    have hSl := Kd.S_lt hS
    obtain ⟨W1, hW1⟩ : ∃ W1 : World, W1 = w.alloc (.cells #[.int .i64 6, .string bx, .int .i64 u, .int .i64 f, .string to_, .string tx] 40) := ⟨_, rfl⟩
    have hX1 : Blk W1 w.heap.size [.int .i64 6, .string bx, .int .i64 u, .int .i64 f, .string to_, .string tx] := by rw [hW1]; exact Blk.made w _ _
    have hXT : W1.heap[w.heap.size]? = some (.cells #[.int .i64 6, .string bx, .int .i64 u, .int .i64 f, .string to_, .string tx] 40 (0, 0)) := by rw [hW1]; show (w.heap.push _)[w.heap.size]? = _; rw [Array.getElem?_push_size]
    have hb1 : Below w.heap.size w W1 := by rw [hW1]; exact (by repeat (first | exact Below.refl _ _ | apply below_alloc | apply pw_below_drewN | apply below_drew1 | (refine Below.setCell ?_ (by first | (simp; done) | (simp; omega) | omega) _) ))
    have hk1 := hk.below hb1 hpb
    have hz1 : W1.heap.size = w.heap.size + 1 := by rw [hW1]; simp
    have hC1 := Kd.C_below hC hb1
    have HF := fun W hr => find_calls A c bs bx W hr
    have d0 := cell_drew' (hk1.at 0 _ rfl)
    have d1 := cell_drew' (hX1.at 1 _ rfl)
    replace hW1 := Lib.hid hW1
    replace HF := Lib.hid HF
    go_enter Tryd.func55, Tryd.ntmps55
    go_wp2_with fail
    rw [← hW1.out]
    go_region_held3 (fun w' => w'.cell? ⟨pb, 0, none⟩ = some (.slice A bs.length c) ∧ w'.cell? ⟨w.heap.size, 1, none⟩ = some (.string bx)) (first | exact ⟨d0, d1⟩ | exact ⟨k0, k1⟩ | go_keep) ((go_at_call 47; refine (HF.out _ (Kd.C_below hC1 (by repeat (first | exact Below.refl _ _ | apply below_alloc | apply pw_below_drewN | apply below_drew1 | (refine Below.setCell ?_ (by first | (simp; done) | (simp; omega) | omega) _) )))).mono ?_; rintro e w5 ⟨rfl, hb5⟩; have k0 := (hb5.cell (lt_of_cell' d0)).trans d0; have k1 := (hb5.cell (lt_of_cell' d1)).trans d1))
    have hb6 : Below W1.heap.size W1 w5 := Below.trans (show Below W1.heap.size W1 W1.drew from (by repeat (first | exact Below.refl _ _ | apply below_alloc | apply pw_below_drewN | apply below_drew1 | (refine Below.setCell ?_ (by first | (simp; done) | (simp; omega) | omega) _) ))) (hb5.mono (by simp))
    have hz5 := hb6.size
    have hX5 := hX1.below hb6 (by omega)
    have hXT5 := (hb6.block w.heap.size (by omega)).trans hXT
    clear hXT
    have hk5 := hk1.below hb6 (by omega)
    have hS5 := Kd.S_below (Kd.S_below hS hb1) hb6
    have hE5 := Kd.R_below (Kd.R_below hE hb1) hb6
    have hB5 := (hb1.mono hbase).trans (hb6.mono (by omega))
    clear hX1 hk1 hC1 hb5 d0 d1 k0 k1 hk hS hE hC
    have m0 := hk5.at 0 _ rfl
    have m1 := hk5.at 1 _ rfl
    have x0 := hX5.at 0 _ rfl
    have x1 := hX5.at 1 _ rfl
    have x2 := hX5.at 2 _ rfl
    have x3 := hX5.at 3 _ rfl
    have x4 := hX5.at 4 _ rfl
    have x5 := hX5.at 5 _ rfl
    go_wp2_with fail
    have hEd := Kd.R_drew hE5
    have m1d := cell_drew' m1
    have hpx : pb ≠ w.heap.size := by omega
    have m1a := cell_alloc' m1 (.cells #[.int .i64 6, .string bx, .int .i64 u, .int .i64 f, .string to_, .string tx] 40)
    refine wp_region_held_drew (S := fun w' => (w'.cell? ⟨w.heap.size, 0, none⟩ = some (.int .i64 6) ∧ w'.cell? ⟨w.heap.size, 1, none⟩ = some (.string bx) ∧ w'.cell? ⟨w.heap.size, 2, none⟩ = some (.int .i64 u) ∧ w'.cell? ⟨w.heap.size, 3, none⟩ = some (.int .i64 f) ∧ w'.cell? ⟨w.heap.size, 4, none⟩ = some (.string to_) ∧ w'.cell? ⟨w.heap.size, 5, none⟩ = some (.string tx))) (by kernel_rfl) ?_ (fun hHeld => ?_)
    · exact x_at hX5.drew
    refine wpAnyH_take (i := 0) (oi := { dst := some 26, op := _, type := _, pos := _, after := _, guard := _ }) (v := .pointer (some ⟨pb, 0, none⟩)) rfl (by kernel_rfl) (by kernel_rfl) (by kernel_rfl) (fun _ _ _ h => h) (Or.inl ⟨by rfl, by (intro w hSw; (try dsimp only at hSw); first | (go_simp; done) | (go_simp; with_reducible rfl) | (go_simp; omega) | (go_simp; simp [*]; done))⟩) (by assumption) ?_; try simp only [Act.put, List.setIfInBounds_toArray, List.set_cons_zero, List.set_cons_succ]
    refine wpAnyH_take (i := 1) (oi := { dst := some 27, op := _, type := _, pos := _, after := _, guard := _ }) (v := .pointer (some ⟨pb, 0, none⟩)) rfl (by kernel_rfl) (by kernel_rfl) (by kernel_rfl) (fun _ _ _ h => h) (Or.inl ⟨by rfl, by (intro w hSw; (try dsimp only at hSw); first | (go_simp; done) | (go_simp; with_reducible rfl) | (go_simp; omega) | (go_simp; simp [*]; done))⟩) (by assumption) ?_; try simp only [Act.put, List.setIfInBounds_toArray, List.set_cons_zero, List.set_cons_succ]
    refine wpAnyH_take (i := 2) (oi := { dst := some 28, op := _, type := _, pos := _, after := _, guard := _ }) (v := .pointer (some ⟨pb, 0, none⟩)) rfl (by kernel_rfl) (by kernel_rfl) (by kernel_rfl) (fun _ _ _ h => h) (Or.inl ⟨by rfl, by (intro w hSw; (try dsimp only at hSw); first | (go_simp; done) | (go_simp; with_reducible rfl) | (go_simp; omega) | (go_simp; simp [*]; done))⟩) (by assumption) ?_; try simp only [Act.put, List.setIfInBounds_toArray, List.set_cons_zero, List.set_cons_succ]
    refine wpAnyH_take (i := 3) (oi := { dst := some 29, op := _, type := _, pos := _, after := _, guard := _ }) (v := .pointer (some ⟨pb, 1, none⟩)) rfl (by kernel_rfl) (by kernel_rfl) (by kernel_rfl) (fun _ _ _ h => h) (Or.inl ⟨by rfl, by (intro w hSw; (try dsimp only at hSw); first | (go_simp; done) | (go_simp; with_reducible rfl) | (go_simp; omega) | (go_simp; simp [*]; done))⟩) (by assumption) ?_; try simp only [Act.put, List.setIfInBounds_toArray, List.set_cons_zero, List.set_cons_succ]
    refine wpAnyH_take (i := 5) (oi := { dst := some 31, op := _, type := _, pos := _, after := _, guard := _ }) (v := .agg #[.int .i64 6, .string bx, .int .i64 u, .int .i64 f, .string to_, .string tx]) rfl (by kernel_rfl) (by kernel_rfl) (by kernel_rfl) (fun _ _ _ h => h) (Or.inl ⟨by rfl, by (intro w hSw; (try dsimp only at hSw); first | (go_simp; done) | (go_simp; with_reducible rfl) | (go_simp; omega) | (go_simp; simp [*]; done))⟩) (by assumption) ?_; try simp only [Act.put, List.setIfInBounds_toArray, List.set_cons_zero, List.set_cons_succ]
    refine wpAnyH_ready (rs := [4, 6]) (by kernel_rfl) (by simp) ?_
    refine AllReadyH.cons (o := { dst := some 30, op := _, type := _, pos := _, after := _, guard := _ }) rfl (fun K hK => ?_) (AllReadyH.cons (o := { dst := some 32, op := _, type := _, pos := _, after := _, guard := _ }) rfl (fun K hK => ?_) AllReadyH.nil)
    · go_simp
      refine hK.out _ _ (x_at hX5.drew) (fun hHeld => ?_)
      clear hK K
      refine wpAnyH_ready (rs := [6]) (by kernel_rfl) (by simp) ?_
      refine AllReadyH.cons (o := { dst := some 32, op := _, type := _, pos := _, after := _, guard := _ }) rfl (fun K hK => ?_) AllReadyH.nil
      go_simp
      refine hK.out _ _ (x_at (hX5.drew.alloc _)) (fun hHeld => ?_)
      clear hK K
      refine wpAnyH_ready (rs := [7]) (by kernel_rfl) (by simp) ?_
      refine AllReadyH.cons (o := { dst := some 33, op := _, type := _, pos := _, after := _, guard := _ }) rfl (fun K hK => ?_) AllReadyH.nil
      refine entry_step base (by rfl) (.tmp 30) (.tmp 32) (by rfl) (.slice A3 es.length c3) es ⟨6, bx, u, f, to_, tx⟩ (fun k => k ≠ pb) (by rfl) (by rfl) (fun k hk => (by simp at hk; omega)) hEd (by simp; omega) (by omega) ?_
      intro v1 w6 hR6 hb7 hg6
      obtain ⟨A6, c6, h6⟩ := Kd.R_slice hR6
      rw [List.length_append] at h6
      subst h6
      have hpo : some pb ≠ (Value.slice A3 es.length c3).ownBlock := fun he => hEd.1 pb he.symm rfl
      have hk6 := (hk5.drew).grown hg6 hpo
      have hX6 := (hX5.drew).grown hg6 (fun he => by have := hEl _ he.symm; omega)
      have hS6 := Kd.S_over' (Kd.S_drew hS5) (Kd.R_typed hEd) (by decide) hg6
      have hz6 := hb7.size
      have g1 := hk6.at 1 _ rfl
      have g2 := hk6.free 1 _ rfl
      refine hK.out _ _ (x_at hX6) (fun hHeld => ?_)
      clear hK K
      refine wpAnyH_take (i := 8) (oi := { dst := some 34, op := _, type := _, pos := _, after := _, guard := _ }) (v := .pointer (some ⟨pb, 0, none⟩)) rfl (by kernel_rfl) (by kernel_rfl) (by kernel_rfl) (fun _ _ _ h => h) (Or.inl ⟨by rfl, by (intro w hSw; (try dsimp only at hSw); first | (go_simp; done) | (go_simp; with_reducible rfl) | (go_simp; omega) | (go_simp; simp [*]; done))⟩) (by assumption) ?_; try simp only [Act.put, List.setIfInBounds_toArray, List.set_cons_zero, List.set_cons_succ]
      refine wpAnyH_take (i := 9) (oi := { dst := some 35, op := _, type := _, pos := _, after := _, guard := _ }) (v := .pointer (some ⟨pb, 1, none⟩)) rfl (by kernel_rfl) (by kernel_rfl) (by kernel_rfl) (fun _ _ _ h => h) (Or.inl ⟨by rfl, by (intro w hSw; (try dsimp only at hSw); first | (go_simp; done) | (go_simp; with_reducible rfl) | (go_simp; omega) | (go_simp; simp [*]; done))⟩) (by assumption) ?_; try simp only [Act.put, List.setIfInBounds_toArray, List.set_cons_zero, List.set_cons_succ]
      refine wpAnyH_ready (rs := [10]) (by kernel_rfl) (by simp) ?_
      refine AllReadyH.cons (o := { dst := none, op := _, type := _, pos := _, after := _, guard := _ }) rfl (fun K hK => ?_) AllReadyH.nil
      go_simp
      refine hK.out _ _ (x_at (hX6.other (c := pb) (j := 1) hpx _)) (fun hHeld => ?_)
      clear hK K
      refine wpAnyH_done (by kernel_rfl) ?_ _
      have hst : StB (w6.setCell ⟨pb, 1, none⟩ (.slice A6 (es.length + 1) c6)) base pb bs (es ++ [⟨6, bx, u, f, to_, tx⟩]) := ⟨_, _, hk6.set 1 (.slice A6 (es.length + 1) c6) (by simp), hp, Kd.S_far (p := ⟨pb, 1, none⟩) hS6 (fun k hk => hk) _, Kd.R_far (p := ⟨pb, 1, none⟩) hR6 (fun k hk => hk) _⟩
      have hB6 : Below base w (w6.setCell ⟨pb, 1, none⟩ (.slice A6 (es.length + 1) c6)) := Below.setCell (Below.trans (below_drew hB5) hb7) hp _
      go_wp2_with fail
      go_ret
      exact ⟨(by first | rfl | (simp; done) | (simp [*]; done) | (rw [if_pos (by omega)]; first | rfl | (simp; done)) | (rw [if_neg (by omega)]; first | rfl | (simp; done)) | (simp; omega)), hst, hB6⟩
    · go_simp
      refine hK.out _ _ (x_at (hX5.drew.alloc _)) (fun hHeld => ?_)
      clear hK K
      refine wpAnyH_ready (rs := [4]) (by kernel_rfl) (by simp) ?_
      refine AllReadyH.cons (o := { dst := some 30, op := _, type := _, pos := _, after := _, guard := _ }) rfl (fun K hK => ?_) AllReadyH.nil
      go_simp
      refine hK.out _ _ (x_at (hX5.drew.alloc _)) (fun hHeld => ?_)
      clear hK K
      refine wpAnyH_ready (rs := [7]) (by kernel_rfl) (by simp) ?_
      refine AllReadyH.cons (o := { dst := some 33, op := _, type := _, pos := _, after := _, guard := _ }) rfl (fun K hK => ?_) AllReadyH.nil
      refine entry_step base (by rfl) (.tmp 30) (.tmp 32) (by rfl) (.slice A3 es.length c3) es ⟨6, bx, u, f, to_, tx⟩ (fun k => k ≠ pb) (by rfl) (by rfl) (fun k hk => (by simp at hk; omega)) hEd (by simp; omega) (by omega) ?_
      intro v1 w6 hR6 hb7 hg6
      obtain ⟨A6, c6, h6⟩ := Kd.R_slice hR6
      rw [List.length_append] at h6
      subst h6
      have hpo : some pb ≠ (Value.slice A3 es.length c3).ownBlock := fun he => hEd.1 pb he.symm rfl
      have hk6 := (hk5.drew).grown hg6 hpo
      have hX6 := (hX5.drew).grown hg6 (fun he => by have := hEl _ he.symm; omega)
      have hS6 := Kd.S_over' (Kd.S_drew hS5) (Kd.R_typed hEd) (by decide) hg6
      have hz6 := hb7.size
      have g1 := hk6.at 1 _ rfl
      have g2 := hk6.free 1 _ rfl
      refine hK.out _ _ (x_at hX6) (fun hHeld => ?_)
      clear hK K
      refine wpAnyH_take (i := 8) (oi := { dst := some 34, op := _, type := _, pos := _, after := _, guard := _ }) (v := .pointer (some ⟨pb, 0, none⟩)) rfl (by kernel_rfl) (by kernel_rfl) (by kernel_rfl) (fun _ _ _ h => h) (Or.inl ⟨by rfl, by (intro w hSw; (try dsimp only at hSw); first | (go_simp; done) | (go_simp; with_reducible rfl) | (go_simp; omega) | (go_simp; simp [*]; done))⟩) (by assumption) ?_; try simp only [Act.put, List.setIfInBounds_toArray, List.set_cons_zero, List.set_cons_succ]
      refine wpAnyH_take (i := 9) (oi := { dst := some 35, op := _, type := _, pos := _, after := _, guard := _ }) (v := .pointer (some ⟨pb, 1, none⟩)) rfl (by kernel_rfl) (by kernel_rfl) (by kernel_rfl) (fun _ _ _ h => h) (Or.inl ⟨by rfl, by (intro w hSw; (try dsimp only at hSw); first | (go_simp; done) | (go_simp; with_reducible rfl) | (go_simp; omega) | (go_simp; simp [*]; done))⟩) (by assumption) ?_; try simp only [Act.put, List.setIfInBounds_toArray, List.set_cons_zero, List.set_cons_succ]
      refine wpAnyH_ready (rs := [10]) (by kernel_rfl) (by simp) ?_
      refine AllReadyH.cons (o := { dst := none, op := _, type := _, pos := _, after := _, guard := _ }) rfl (fun K hK => ?_) AllReadyH.nil
      go_simp
      refine hK.out _ _ (x_at (hX6.other (c := pb) (j := 1) hpx _)) (fun hHeld => ?_)
      clear hK K
      refine wpAnyH_done (by kernel_rfl) ?_ _
      have hst : StB (w6.setCell ⟨pb, 1, none⟩ (.slice A6 (es.length + 1) c6)) base pb bs (es ++ [⟨6, bx, u, f, to_, tx⟩]) := ⟨_, _, hk6.set 1 (.slice A6 (es.length + 1) c6) (by simp), hp, Kd.S_far (p := ⟨pb, 1, none⟩) hS6 (fun k hk => hk) _, Kd.R_far (p := ⟨pb, 1, none⟩) hR6 (fun k hk => hk) _⟩
      have hB6 : Below base w (w6.setCell ⟨pb, 1, none⟩ (.slice A6 (es.length + 1) c6)) := Below.setCell (Below.trans (below_drew hB5) hb7) hp _
      go_wp2_with fail
      go_ret
      exact ⟨(by first | rfl | (simp; done) | (simp [*]; done) | (rw [if_pos (by omega)]; first | rfl | (simp; done)) | (rw [if_neg (by omega)]; first | rfl | (simp; done)) | (simp; omega)), hst, hB6⟩
end Go.Proofs.YtijdghplfhfpaaaDoor.H

/- Boxes: box.apply: no such box; Append. -/
namespace Go.Proofs.YtijdghplfhfpaaaDoor.H
open Go.RowKit Go.Proofs.YtijdghplfhfpaaaDoorW.PrintWords Go.Proofs.YtijdghplfhfpaaaDoorW.PrintLast Go.Proofs.YtijdghplfhfpaaaDoor.U
set_option linter.unusedVariables false
set_option linter.unusedSimpArgs false
theorem entV_none {bs : List ABox} {es : List AEntry} {x : AEntry} (h6 : ¬ x.kind = 6) (h1 : ¬ x.kind = 1) (hf : findG x.box bs 0 < 0) : entV bs es x = (7, bs, es) := by
  rw [entV, if_neg h6, if_neg h1, if_pos hf]
theorem entV_mail {bs : List ABox} {es : List AEntry} {x : AEntry} {i : Nat} (h6 : ¬ x.kind = 6) (h1 : ¬ x.kind = 1) (hf : findG x.box bs 0 = (i : Int)) : entV bs es x = ((mailV bs i x).1, (mailV bs i x).2, es) := by
  rw [entV, if_neg h6, if_neg h1, if_neg (by omega), hf, Int.toNat_natCast]
set_option maxHeartbeats 2000000 in
set_option maxRecDepth 100000 in
theorem apply_none (pb : Nat) (k : Int) (bx : ByteArray) (u f : Int) (to_ tx : ByteArray) (base : Nat) (bs : List ABox) (es : List AEntry) (w : World) (h : StB w base pb bs es) (hk6 : ¬ k = 6) (hk1 : ¬ k = 1) (hf : findG bx bs 0 < 0) :
    Calls Tryd.prog 55 #[.pointer (some ⟨pb, 0, none⟩), .agg #[.int .i64 k, .string bx, .int .i64 u, .int .i64 f, .string to_, .string tx]] w fun e w' => e = .returned (.int .i64 (entV bs es ⟨k, bx, u, f, to_, tx⟩).1) ∧ StB w' base pb (entV bs es ⟨k, bx, u, f, to_, tx⟩).2.1 (entV bs es ⟨k, bx, u, f, to_, tx⟩).2.2 ∧ Below base w w' := by
  have hbase := h.bases
  have hpb := h.lt
  rw [entV_none (x := ⟨k, bx, u, f, to_, tx⟩) hk6 hk1 hf]
  have b6 : (k == 6) = false := by rw [beq_eq_false_iff_ne]; exact hk6
  have b1 : (k == 1) = false := by rw [beq_eq_false_iff_ne]; exact hk1
  obtain ⟨fi, hfi⟩ : ∃ fi, findG bx bs 0 = fi := ⟨_, rfl⟩
  rw [hfi] at hf
  clear hk6 hk1
  obtain ⟨vB, vS, hk, hp, hS, hE⟩ := h
  obtain ⟨A, c, rfl, hc, hC⟩ := Kd.S_reads hS
  obtain ⟨A3, c3, rfl⟩ := Kd.R_slice hE
  have hEl := Kd.R_lt hE
  have hSl := Kd.S_lt hS
  obtain ⟨W1, hW1⟩ : ∃ W1 : World, W1 = w.alloc (.cells #[.int .i64 k, .string bx, .int .i64 u, .int .i64 f, .string to_, .string tx] 40) := ⟨_, rfl⟩
  have hX1 : Blk W1 w.heap.size [.int .i64 k, .string bx, .int .i64 u, .int .i64 f, .string to_, .string tx] := by rw [hW1]; exact Blk.made w _ _
  have hXT : W1.heap[w.heap.size]? = some (.cells #[.int .i64 k, .string bx, .int .i64 u, .int .i64 f, .string to_, .string tx] 40 (0, 0)) := by rw [hW1]; show (w.heap.push _)[w.heap.size]? = _; rw [Array.getElem?_push_size]
  have hb1 : Below w.heap.size w W1 := by rw [hW1]; exact (by repeat (first | exact Below.refl _ _ | apply below_alloc | apply pw_below_drewN | apply below_drew1 | (refine Below.setCell ?_ (by first | (simp; done) | (simp; omega) | omega) _) ))
  have hk1 := hk.below hb1 hpb
  have hz1 : W1.heap.size = w.heap.size + 1 := by rw [hW1]; simp
  have hC1 := Kd.C_below hC hb1
  have HF := fun W hr => find_calls A c bs bx W hr
  have d0 := cell_drew' (hk1.at 0 _ rfl)
  have d1 := cell_drew' (hX1.at 1 _ rfl)
  replace hW1 := Lib.hid hW1
  simp only [hfi] at HF
  clear hfi
  replace HF := Lib.hid HF
  go_enter Tryd.func55, Tryd.ntmps55
  go_wp2_with fail
  rw [← hW1.out]
  go_region_held3 (fun w' => w'.cell? ⟨pb, 0, none⟩ = some (.slice A bs.length c) ∧ w'.cell? ⟨w.heap.size, 1, none⟩ = some (.string bx)) (first | exact ⟨d0, d1⟩ | exact ⟨k0, k1⟩ | go_keep) ((go_at_call 47; refine (HF.out _ (Kd.C_below hC1 (by repeat (first | exact Below.refl _ _ | apply below_alloc | apply pw_below_drewN | apply below_drew1 | (refine Below.setCell ?_ (by first | (simp; done) | (simp; omega) | omega) _) )))).mono ?_; rintro e w5 ⟨rfl, hb5⟩; have k0 := (hb5.cell (lt_of_cell' d0)).trans d0; have k1 := (hb5.cell (lt_of_cell' d1)).trans d1))
  have hb6 : Below W1.heap.size W1 w5 := Below.trans (show Below W1.heap.size W1 W1.drew from (by repeat (first | exact Below.refl _ _ | apply below_alloc | apply pw_below_drewN | apply below_drew1 | (refine Below.setCell ?_ (by first | (simp; done) | (simp; omega) | omega) _) ))) (hb5.mono (by simp))
  have hz5 := hb6.size
  have hX5 := hX1.below hb6 (by omega)
  have hXT5 := (hb6.block w.heap.size (by omega)).trans hXT
  clear hXT
  have hk5 := hk1.below hb6 (by omega)
  have hS5 := Kd.S_below (Kd.S_below hS hb1) hb6
  have hE5 := Kd.R_below (Kd.R_below hE hb1) hb6
  have hB5 := (hb1.mono hbase).trans (hb6.mono (by omega))
  clear hX1 hk1 hC1 hb5 d0 d1 k0 k1 hk hS hE hC
  have m0 := hk5.at 0 _ rfl
  have m1 := hk5.at 1 _ rfl
  have x0 := hX5.at 0 _ rfl
  have x1 := hX5.at 1 _ rfl
  have x2 := hX5.at 2 _ rfl
  have x3 := hX5.at 3 _ rfl
  have x4 := hX5.at 4 _ rfl
  have x5 := hX5.at 5 _ rfl
  go_wp2_with fail
  go_ret
  exact ⟨(by first | rfl | (simp; done) | (simp [*]; done) | (rw [if_pos (by omega)]; first | rfl | (simp; done)) | (rw [if_neg (by omega)]; first | rfl | (simp; done)) | (simp; omega)), ⟨_, _, hk5, hp, hS5, hE5⟩, hB5⟩
set_option maxHeartbeats 2000000 in
set_option maxRecDepth 100000 in
theorem apply_append (pb i : Nat) (bx : ByteArray) (u f : Int) (to_ tx : ByteArray) (base : Nat) (bs : List ABox) (es : List AEntry) (w : World) (h : StB w base pb bs es) (hinv : InvS bs es) (htx : tx.size ≤ 2000) (hfi : findG bx bs 0 = (i : Int)) (hi : i < bs.length) :
    Calls Tryd.prog 55 #[.pointer (some ⟨pb, 0, none⟩), .agg #[.int .i64 2, .string bx, .int .i64 u, .int .i64 f, .string to_, .string tx]] w fun e w' => e = .returned (.int .i64 (entV bs es ⟨2, bx, u, f, to_, tx⟩).1) ∧ StB w' base pb (entV bs es ⟨2, bx, u, f, to_, tx⟩).2.1 (entV bs es ⟨2, bx, u, f, to_, tx⟩).2.2 ∧ Below base w w' := by
  have hbase := h.bases
  have hpb := h.lt
  have hm : mailV bs i ⟨2, bx, u, f, to_, tx⟩ = addV bs i f tx := if_pos rfl
  rw [entV_mail (x := ⟨2, bx, u, f, to_, tx⟩) (by show ¬ ((2 : Int) = 6); decide) (by show ¬ ((2 : Int) = 1); decide) hfi, hm]
  have HA := Lib.hid (fun W h => add_calls pb i f tx base bs es W h hinv hi htx)
  have i0 : (0 : Int) ≤ (i : Int) := by omega
  have i1 : ¬ (i : Int) < 0 := by omega
  obtain ⟨vB, vS, hk, hp, hS, hE⟩ := h
  obtain ⟨A, c, rfl, hc, hC⟩ := Kd.S_reads hS
  obtain ⟨A3, c3, rfl⟩ := Kd.R_slice hE
  have hEl := Kd.R_lt hE
  have hSl := Kd.S_lt hS
  obtain ⟨W1, hW1⟩ : ∃ W1 : World, W1 = w.alloc (.cells #[.int .i64 2, .string bx, .int .i64 u, .int .i64 f, .string to_, .string tx] 40) := ⟨_, rfl⟩
  have hX1 : Blk W1 w.heap.size [.int .i64 2, .string bx, .int .i64 u, .int .i64 f, .string to_, .string tx] := by rw [hW1]; exact Blk.made w _ _
  have hXT : W1.heap[w.heap.size]? = some (.cells #[.int .i64 2, .string bx, .int .i64 u, .int .i64 f, .string to_, .string tx] 40 (0, 0)) := by rw [hW1]; show (w.heap.push _)[w.heap.size]? = _; rw [Array.getElem?_push_size]
  have hb1 : Below w.heap.size w W1 := by rw [hW1]; exact (by repeat (first | exact Below.refl _ _ | apply below_alloc | apply pw_below_drewN | apply below_drew1 | (refine Below.setCell ?_ (by first | (simp; done) | (simp; omega) | omega) _) ))
  have hk1 := hk.below hb1 hpb
  have hz1 : W1.heap.size = w.heap.size + 1 := by rw [hW1]; simp
  have hC1 := Kd.C_below hC hb1
  have HF := fun W hr => find_calls A c bs bx W hr
  have d0 := cell_drew' (hk1.at 0 _ rfl)
  have d1 := cell_drew' (hX1.at 1 _ rfl)
  replace hW1 := Lib.hid hW1
  simp only [hfi] at HF
  clear hfi hm
  replace HF := Lib.hid HF
  go_enter Tryd.func55, Tryd.ntmps55
  go_wp2_with fail
  rw [← hW1.out]
  go_region_held3 (fun w' => w'.cell? ⟨pb, 0, none⟩ = some (.slice A bs.length c) ∧ w'.cell? ⟨w.heap.size, 1, none⟩ = some (.string bx)) (first | exact ⟨d0, d1⟩ | exact ⟨k0, k1⟩ | go_keep) ((go_at_call 47; refine (HF.out _ (Kd.C_below hC1 (by repeat (first | exact Below.refl _ _ | apply below_alloc | apply pw_below_drewN | apply below_drew1 | (refine Below.setCell ?_ (by first | (simp; done) | (simp; omega) | omega) _) )))).mono ?_; rintro e w5 ⟨rfl, hb5⟩; have k0 := (hb5.cell (lt_of_cell' d0)).trans d0; have k1 := (hb5.cell (lt_of_cell' d1)).trans d1))
  have hb6 : Below W1.heap.size W1 w5 := Below.trans (show Below W1.heap.size W1 W1.drew from (by repeat (first | exact Below.refl _ _ | apply below_alloc | apply pw_below_drewN | apply below_drew1 | (refine Below.setCell ?_ (by first | (simp; done) | (simp; omega) | omega) _) ))) (hb5.mono (by simp))
  have hz5 := hb6.size
  have hX5 := hX1.below hb6 (by omega)
  have hXT5 := (hb6.block w.heap.size (by omega)).trans hXT
  clear hXT
  have hk5 := hk1.below hb6 (by omega)
  have hS5 := Kd.S_below (Kd.S_below hS hb1) hb6
  have hE5 := Kd.R_below (Kd.R_below hE hb1) hb6
  have hB5 := (hb1.mono hbase).trans (hb6.mono (by omega))
  clear hX1 hk1 hC1 hb5 d0 d1 k0 k1 hk hS hE hC
  have m0 := hk5.at 0 _ rfl
  have m1 := hk5.at 1 _ rfl
  have x0 := hX5.at 0 _ rfl
  have x1 := hX5.at 1 _ rfl
  have x2 := hX5.at 2 _ rfl
  have x3 := hX5.at 3 _ rfl
  have x4 := hX5.at 4 _ rfl
  have x5 := hX5.at 5 _ rfl
  have hst : StB w5 base pb bs es := ⟨_, _, hk5, hp, hS5, hE5⟩
  go_wp2_with fail
  refine (HA.out _ hst).mono ?_
  rintro e w6 ⟨rfl, hst6, hb7⟩
  go_wp2_with fail
  go_ret
  exact ⟨(by first | rfl | (simp; done) | (simp [*]; done) | (rw [if_pos (by omega)]; first | rfl | (simp; done)) | (rw [if_neg (by omega)]; first | rfl | (simp; done)) | (simp; omega)), hst6, hB5.trans hb7⟩
end Go.Proofs.YtijdghplfhfpaaaDoor.H

/- Boxes: box.apply: Expunge. -/
namespace Go.Proofs.YtijdghplfhfpaaaDoor.H
open Go.RowKit Go.Proofs.YtijdghplfhfpaaaDoorW.PrintWords Go.Proofs.YtijdghplfhfpaaaDoorW.PrintLast Go.Proofs.YtijdghplfhfpaaaDoor.U
set_option linter.unusedVariables false
set_option linter.unusedSimpArgs false
theorem mailsAt_of {bs : List ABox} {i : Nat} {nm : ByteArray} {nx : Int} {l : List AMail} (hi : i < bs.length) (hb : bs[i] = (nm, nx, l)) : mailsAt bs i = l := by
  unfold mailsAt; rw [List.getElem?_eq_getElem hi, hb]
theorem putMails_of {bs : List ABox} {i : Nat} {nm : ByteArray} {nx : Int} {l : List AMail} (hi : i < bs.length) (hb : bs[i] = (nm, nx, l)) (l2 : List AMail) : putMails bs i l2 = bs.set i (nm, nx, l2) := by
  unfold putMails; rw [List.getElem?_eq_getElem hi, hb]
set_option maxHeartbeats 2000000 in
set_option maxRecDepth 100000 in
theorem apply_expunge (pb i : Nat) (bx : ByteArray) (u f : Int) (to_ tx : ByteArray) (base : Nat) (bs : List ABox) (es : List AEntry) (w : World) (h : StB w base pb bs es) (hinv : InvS bs es) (hfi : findG bx bs 0 = (i : Int)) (hi : i < bs.length) :
    Calls Tryd.prog 55 #[.pointer (some ⟨pb, 0, none⟩), .agg #[.int .i64 4, .string bx, .int .i64 u, .int .i64 f, .string to_, .string tx]] w fun e w' => e = .returned (.int .i64 (entV bs es ⟨4, bx, u, f, to_, tx⟩).1) ∧ StB w' base pb (entV bs es ⟨4, bx, u, f, to_, tx⟩).2.1 (entV bs es ⟨4, bx, u, f, to_, tx⟩).2.2 ∧ Below base w w' := by
  have hbase := h.bases
  have hpb := h.lt
  obtain ⟨nm, nx, l, hb⟩ : ∃ nm nx l, bs[i] = (nm, nx, l) := ⟨_, _, _, rfl⟩
  have hm : mailV bs i ⟨4, bx, u, f, to_, tx⟩ = (0, bs.set i (nm, nx, l.filter keepM)) := by
    rw [← putMails_of hi hb, mailV, if_neg (by show ¬ ((4 : Int) = 2); decide), if_pos rfl, mailsAt_of hi hb]
  rw [entV_mail (x := ⟨4, bx, u, f, to_, tx⟩) (by show ¬ ((4 : Int) = 6); decide) (by show ¬ ((4 : Int) = 1); decide) hfi, hm]
  have hgd : GoodB (nm, nx, l) := by rw [← hb]; exact hinv.2.2 _ (List.getElem_mem hi)
  obtain ⟨g1, g2, g3, g4, g5⟩ := hgd
  simp only at g1 g2 g3 g4 g5
  have hfl : ∀ m ∈ l, 0 ≤ m.flags ∧ m.flags ≤ 31 := fun m hm => by obtain ⟨_, _, a, b, _⟩ := mails_mem _ _ g5 m hm; exact ⟨a, b⟩
  have i0 : (0 : Int) ≤ (i : Int) := by omega
  have i1 : ¬ (i : Int) < 0 := by omega
  have i2 : (i : Int) < (bs.length : Int) := by omega
  obtain ⟨vB, vS, hk, hp, hS, hE⟩ := h
  obtain ⟨A, c, rfl, hc, hC⟩ := Kd.S_reads hS
  obtain ⟨A3, c3, rfl⟩ := Kd.R_slice hE
  have hEl := Kd.R_lt hE
  have hSl := Kd.S_lt hS
  obtain ⟨W1, hW1⟩ : ∃ W1 : World, W1 = w.alloc (.cells #[.int .i64 4, .string bx, .int .i64 u, .int .i64 f, .string to_, .string tx] 40) := ⟨_, rfl⟩
  have hX1 : Blk W1 w.heap.size [.int .i64 4, .string bx, .int .i64 u, .int .i64 f, .string to_, .string tx] := by rw [hW1]; exact Blk.made w _ _
  have hXT : W1.heap[w.heap.size]? = some (.cells #[.int .i64 4, .string bx, .int .i64 u, .int .i64 f, .string to_, .string tx] 40 (0, 0)) := by rw [hW1]; show (w.heap.push _)[w.heap.size]? = _; rw [Array.getElem?_push_size]
  have hb1 : Below w.heap.size w W1 := by rw [hW1]; exact (by repeat (first | exact Below.refl _ _ | apply below_alloc | apply pw_below_drewN | apply below_drew1 | (refine Below.setCell ?_ (by first | (simp; done) | (simp; omega) | omega) _) ))
  have hk1 := hk.below hb1 hpb
  have hz1 : W1.heap.size = w.heap.size + 1 := by rw [hW1]; simp
  have hC1 := Kd.C_below hC hb1
  have HF := fun W hr => find_calls A c bs bx W hr
  have d0 := cell_drew' (hk1.at 0 _ rfl)
  have d1 := cell_drew' (hX1.at 1 _ rfl)
  replace hW1 := Lib.hid hW1
  simp only [hfi] at HF
  clear hfi hm
  replace HF := Lib.hid HF
  go_enter Tryd.func55, Tryd.ntmps55
  go_wp2_with fail
  rw [← hW1.out]
  go_region_held3 (fun w' => w'.cell? ⟨pb, 0, none⟩ = some (.slice A bs.length c) ∧ w'.cell? ⟨w.heap.size, 1, none⟩ = some (.string bx)) (first | exact ⟨d0, d1⟩ | exact ⟨k0, k1⟩ | go_keep) ((go_at_call 47; refine (HF.out _ (Kd.C_below hC1 (by repeat (first | exact Below.refl _ _ | apply below_alloc | apply pw_below_drewN | apply below_drew1 | (refine Below.setCell ?_ (by first | (simp; done) | (simp; omega) | omega) _) )))).mono ?_; rintro e w5 ⟨rfl, hb5⟩; have k0 := (hb5.cell (lt_of_cell' d0)).trans d0; have k1 := (hb5.cell (lt_of_cell' d1)).trans d1))
  have hb6 : Below W1.heap.size W1 w5 := Below.trans (show Below W1.heap.size W1 W1.drew from (by repeat (first | exact Below.refl _ _ | apply below_alloc | apply pw_below_drewN | apply below_drew1 | (refine Below.setCell ?_ (by first | (simp; done) | (simp; omega) | omega) _) ))) (hb5.mono (by simp))
  have hz5 := hb6.size
  have hX5 := hX1.below hb6 (by omega)
  have hXT5 := (hb6.block w.heap.size (by omega)).trans hXT
  clear hXT
  have hk5 := hk1.below hb6 (by omega)
  have hS5 := Kd.S_below (Kd.S_below hS hb1) hb6
  have hE5 := Kd.R_below (Kd.R_below hE hb1) hb6
  have hB5 := (hb1.mono hbase).trans (hb6.mono (by omega))
  clear hX1 hk1 hC1 hb5 d0 d1 k0 k1 hk hS hE hC
  have m0 := hk5.at 0 _ rfl
  have m1 := hk5.at 1 _ rfl
  have x0 := hX5.at 0 _ rfl
  have x1 := hX5.at 1 _ rfl
  have x2 := hX5.at 2 _ rfl
  have x3 := hX5.at 3 _ rfl
  have x4 := hX5.at 4 _ rfl
  have x5 := hX5.at 5 _ rfl
  obtain ⟨g, cap, hAc, hgb, hgl, cells, hgc⟩ := Kd.S_form hS5 (by omega)
  injection hAc with hAc1 _ hAc2
  subst hAc1
  subst hAc2
  obtain ⟨oki, vM, y0, y1, y2, f1, f2, hR, hoki, hH⟩ := box_lend hS5 hi hb
  obtain ⟨Am, cm, rfl⟩ := Kd.R_slice hR
  have hng : g ≠ pb := fun he => (Kd.S_R hS5).1 g (by simp [Value.ownBlock]) he
  have hng2 : pb ≠ g := Ne.symm hng
  have hgx : g < w.heap.size := hSl g (by simp [Value.ownBlock])
  have ea : (⟨g, 0, none⟩ : Addr).add (i * 3) = ⟨g, i * 3, none⟩ := add_plain _ _
  have hgo : some g ≠ (Value.slice Am l.length cm).ownBlock := fun he => (hoki g (hR.1 g he.symm)).2 rfl
  have hpo : some pb ≠ (Value.slice Am l.length cm).ownBlock := fun he => (hoki pb (hR.1 pb he.symm)).1 rfl
  have HD := Lib.hid (fun W hR hbs => deleteFunc_calls base oki (.slice Am l.length cm) l W hR hbs hfl g4)
  go_wp2_with fail
  have y2d := cell_drew' y2
  have hRd := Kd.R_drew hR
  have hkd := hk5.drew
  refine wp_region_held_drew (S := fun w' => w'.cell? ⟨pb, 0, none⟩ = some (.slice (some ⟨g, 0, none⟩) bs.length c)) (by kernel_rfl) ?_ (fun hHeld => ?_)
  · exact hkd.at 0 _ rfl
  refine wpAnyH_take (i := 0) (oi := { dst := some 84, op := _, type := _, pos := _, after := _, guard := _ }) (v := .pointer (some ⟨pb, 0, none⟩)) rfl (by kernel_rfl) (by kernel_rfl) (by kernel_rfl) (fun _ _ _ h => h) (Or.inl ⟨by rfl, by (intro w hSw; (try dsimp only at hSw); first | (go_simp; done) | (go_simp; with_reducible rfl) | (go_simp; omega) | (go_simp; simp [*]; done))⟩) (by assumption) ?_; try simp only [Act.put, List.setIfInBounds_toArray, List.set_cons_zero, List.set_cons_succ]
  refine wpAnyH_take (i := 1) (oi := { dst := some 85, op := _, type := _, pos := _, after := _, guard := _ }) (v := .pointer (some ⟨pb, 0, none⟩)) rfl (by kernel_rfl) (by kernel_rfl) (by kernel_rfl) (fun _ _ _ h => h) (Or.inl ⟨by rfl, by (intro w hSw; (try dsimp only at hSw); first | (go_simp; done) | (go_simp; with_reducible rfl) | (go_simp; omega) | (go_simp; simp [*]; done))⟩) (by assumption) ?_; try simp only [Act.put, List.setIfInBounds_toArray, List.set_cons_zero, List.set_cons_succ]
  refine wpAnyH_take (i := 2) (oi := { dst := some 86, op := _, type := _, pos := _, after := _, guard := _ }) (v := .pointer (some ⟨pb, 0, none⟩)) rfl (by kernel_rfl) (by kernel_rfl) (by kernel_rfl) (fun _ _ _ h => h) (Or.inl ⟨by rfl, by (intro w hSw; (try dsimp only at hSw); first | (go_simp; done) | (go_simp; with_reducible rfl) | (go_simp; omega) | (go_simp; simp [*]; done))⟩) (by assumption) ?_; try simp only [Act.put, List.setIfInBounds_toArray, List.set_cons_zero, List.set_cons_succ]
  refine wpAnyH_take (i := 3) (oi := { dst := some 87, op := _, type := _, pos := _, after := _, guard := _ }) (v := .slice (some ⟨g, 0, none⟩) bs.length c) rfl (by kernel_rfl) (by kernel_rfl) (by kernel_rfl) (fun _ _ _ h => h) (Or.inl ⟨by rfl, by (intro w hSw; (try dsimp only at hSw); first | (go_simp; done) | (go_simp; with_reducible rfl) | (go_simp; omega) | (go_simp; simp [*]; done))⟩) (by assumption) ?_; try simp only [Act.put, List.setIfInBounds_toArray, List.set_cons_zero, List.set_cons_succ]
  refine wpAnyH_take (i := 4) (oi := { dst := some 88, op := _, type := _, pos := _, after := _, guard := _ }) (v := .int .i64 i) rfl (by kernel_rfl) (by kernel_rfl) (by kernel_rfl) (fun _ _ _ h => h) (Or.inl ⟨by rfl, by (intro w hSw; (try dsimp only at hSw); first | (go_simp; done) | (go_simp; with_reducible rfl) | (go_simp; omega) | (go_simp; simp [*]; done))⟩) (by assumption) ?_; try simp only [Act.put, List.setIfInBounds_toArray, List.set_cons_zero, List.set_cons_succ]
  refine wpAnyH_take (i := 5) (oi := { dst := some 89, op := _, type := _, pos := _, after := _, guard := _ }) (v := .pointer (some ⟨pb, 0, none⟩)) rfl (by kernel_rfl) (by kernel_rfl) (by kernel_rfl) (fun _ _ _ h => h) (Or.inl ⟨by rfl, by (intro w hSw; (try dsimp only at hSw); first | (go_simp; done) | (go_simp; with_reducible rfl) | (go_simp; omega) | (go_simp; simp [*]; done))⟩) (by assumption) ?_; try simp only [Act.put, List.setIfInBounds_toArray, List.set_cons_zero, List.set_cons_succ]
  refine wpAnyH_take (i := 6) (oi := { dst := some 90, op := _, type := _, pos := _, after := _, guard := _ }) (v := .pointer (some ⟨pb, 0, none⟩)) rfl (by kernel_rfl) (by kernel_rfl) (by kernel_rfl) (fun _ _ _ h => h) (Or.inl ⟨by rfl, by (intro w hSw; (try dsimp only at hSw); first | (go_simp; done) | (go_simp; with_reducible rfl) | (go_simp; omega) | (go_simp; simp [*]; done))⟩) (by assumption) ?_; try simp only [Act.put, List.setIfInBounds_toArray, List.set_cons_zero, List.set_cons_succ]
  refine wpAnyH_take (i := 7) (oi := { dst := some 91, op := _, type := _, pos := _, after := _, guard := _ }) (v := .pointer (some ⟨pb, 0, none⟩)) rfl (by kernel_rfl) (by kernel_rfl) (by kernel_rfl) (fun _ _ _ h => h) (Or.inl ⟨by rfl, by (intro w hSw; (try dsimp only at hSw); first | (go_simp; done) | (go_simp; with_reducible rfl) | (go_simp; omega) | (go_simp; simp [*]; done))⟩) (by assumption) ?_; try simp only [Act.put, List.setIfInBounds_toArray, List.set_cons_zero, List.set_cons_succ]
  refine wpAnyH_take (i := 8) (oi := { dst := some 92, op := _, type := _, pos := _, after := _, guard := _ }) (v := .slice (some ⟨g, 0, none⟩) bs.length c) rfl (by kernel_rfl) (by kernel_rfl) (by kernel_rfl) (fun _ _ _ h => h) (Or.inl ⟨by rfl, by (intro w hSw; (try dsimp only at hSw); first | (go_simp; done) | (go_simp; with_reducible rfl) | (go_simp; omega) | (go_simp; simp [*]; done))⟩) (by assumption) ?_; try simp only [Act.put, List.setIfInBounds_toArray, List.set_cons_zero, List.set_cons_succ]
  refine wpAnyH_take (i := 9) (oi := { dst := some 93, op := _, type := _, pos := _, after := _, guard := _ }) (v := .int .i64 i) rfl (by kernel_rfl) (by kernel_rfl) (by kernel_rfl) (fun _ _ _ h => h) (Or.inl ⟨by rfl, by (intro w hSw; (try dsimp only at hSw); first | (go_simp; done) | (go_simp; with_reducible rfl) | (go_simp; omega) | (go_simp; simp [*]; done))⟩) (by assumption) ?_; try simp only [Act.put, List.setIfInBounds_toArray, List.set_cons_zero, List.set_cons_succ]
  refine wpAnyH_take (i := 10) (oi := { dst := some 94, op := _, type := _, pos := _, after := _, guard := _ }) (v := .pointer (some ⟨g, i * 3, none⟩)) rfl (by kernel_rfl) (by kernel_rfl) (by kernel_rfl) (fun _ _ _ h => h) (Or.inl ⟨by rfl, by (intro w hSw; (try dsimp only at hSw); first | (go_simp; done) | (go_simp; with_reducible rfl) | (go_simp; omega) | (go_simp; simp [*]; done))⟩) (by assumption) ?_; try simp only [Act.put, List.setIfInBounds_toArray, List.set_cons_zero, List.set_cons_succ]
  refine wpAnyH_take (i := 11) (oi := { dst := some 95, op := _, type := _, pos := _, after := _, guard := _ }) (v := .pointer (some ⟨g, i * 3 + 2, none⟩)) rfl (by kernel_rfl) (by kernel_rfl) (by kernel_rfl) (fun _ _ _ h => h) (Or.inl ⟨by rfl, by (intro w hSw; (try dsimp only at hSw); first | (go_simp; done) | (go_simp; with_reducible rfl) | (go_simp; omega) | (go_simp; simp [*]; done))⟩) (by assumption) ?_; try simp only [Act.put, List.setIfInBounds_toArray, List.set_cons_zero, List.set_cons_succ]
  refine wpAnyH_ready (rs := [12]) (by kernel_rfl) (by simp) ?_
  refine AllReadyH.cons (o := { dst := some 96, op := _, type := _, pos := _, after := _, guard := _ }) rfl (fun K hK => ?_) AllReadyH.nil
  go_simp
  refine hK.out _ _ (hkd.at 0 _ rfl) (fun hHeld => ?_)
  clear hK K
  refine wpAnyH_ready (rs := [13]) (by kernel_rfl) (by simp) ?_
  refine AllReadyH.cons (o := { dst := some 97, op := _, type := _, pos := _, after := _, guard := _ }) rfl (fun K hK => ?_) AllReadyH.nil
  go_simp
  go_at_call 92
  refine (HD.out _ hRd (by simp; omega)).mono ?_
  rintro e w6 ⟨v6, rfl, hR6, hg6⟩
  obtain ⟨A6, c6, rfl⟩ := Kd.R_slice hR6
  have hz6 := hg6.size
  simp at hz6
  have hk6 := hkd.grown hg6 hpo
  have z2 := (hg6.cell_far ⟨g, i * 3 + 2, none⟩ (by simp; omega) hgo).trans y2d
  have z4 : w6.frozen? ⟨g, i * 3 + 2, none⟩ = false := (hg6.frozen_far ⟨g, i * 3 + 2, none⟩ (by simp; omega) hgo).trans (by simpa using f2)
  simp only [Result.andThen]
  refine hK.out _ _ (hk6.at 0 _ rfl) (fun hHeld => ?_)
  clear hK K
  refine wpAnyH_take (i := 14) (oi := { dst := some 98, op := _, type := _, pos := _, after := _, guard := _ }) (v := .pointer (some ⟨g, i * 3, none⟩)) rfl (by kernel_rfl) (by kernel_rfl) (by kernel_rfl) (fun _ _ _ h => h) (Or.inl ⟨by rfl, by (intro w hSw; (try dsimp only at hSw); first | (go_simp; done) | (go_simp; with_reducible rfl) | (go_simp; omega) | (go_simp; simp [*]; done))⟩) (by assumption) ?_; try simp only [Act.put, List.setIfInBounds_toArray, List.set_cons_zero, List.set_cons_succ]
  refine wpAnyH_take (i := 15) (oi := { dst := some 99, op := _, type := _, pos := _, after := _, guard := _ }) (v := .pointer (some ⟨g, i * 3 + 2, none⟩)) rfl (by kernel_rfl) (by kernel_rfl) (by kernel_rfl) (fun _ _ _ h => h) (Or.inl ⟨by rfl, by (intro w hSw; (try dsimp only at hSw); first | (go_simp; done) | (go_simp; with_reducible rfl) | (go_simp; omega) | (go_simp; simp [*]; done))⟩) (by assumption) ?_; try simp only [Act.put, List.setIfInBounds_toArray, List.set_cons_zero, List.set_cons_succ]
  refine wpAnyH_ready (rs := [16]) (by kernel_rfl) (by simp) ?_
  refine AllReadyH.cons (o := { dst := none, op := _, type := _, pos := _, after := _, guard := _ }) rfl (fun K hK => ?_) AllReadyH.nil
  go_simp
  refine hK.out _ _ ((hk6.other (c := g) (j := i * 3 + 2) hng _).at 0 _ rfl) (fun hHeld => ?_)
  clear hK K
  refine wpAnyH_done (by kernel_rfl) ?_ _
  have hH6 := Kd.H_grown (Kd.H_drew hH) hg6 (fun k hk => hR.1 k hk)
  have hng3 : ∀ k, oki k → k ≠ g := fun k hk => (hoki k hk).2
  generalize hvv : (Value.slice A6 (l.filter keepM).length c6) = vv at *
  have h1c : vv.oneCell' = true := by rw [← hvv]; rfl
  have hS6 := box_back (box_hole2 hH6 hi h1c) (Kd.R_far (p := ⟨g, i * 3 + 2, none⟩) hR6 hng3 vv)
  have hg7 : w6.heap[g]? = some (.cells cells 77 (0, 0)) := (hg6.block g (by simp; omega) hgo).trans hgc
  have hE6 := Kd.R_mono (Kd.R_far (p := ⟨g, i * 3 + 2, none⟩) (Kd.R_types (entries_over (Kd.R_drew hE5) hRd hg6) hg7 (by decide)) (fun k hk => hk.2) vv) (fun k hk => hk.1)
  have hst : StB (w6.setCell ⟨g, i * 3 + 2, none⟩ vv) base pb (bs.set i (nm, nx, l.filter keepM)) es := ⟨_, _, hk6.other (c := g) (j := i * 3 + 2) hng vv, hp, hS6, hE6⟩
  have hB6 : Below base w (w6.setCell ⟨g, i * 3 + 2, none⟩ vv) := by
    refine Below.setCell (Below.grown (below_drew hB5) hg6 (by simp; omega) (fun k hk => ?_)) hgb vv
    exact Kd.R_base hR k hk
  go_wp2_with fail
  go_ret
  exact ⟨(by first | rfl | (simp; done) | (simp [*]; done) | (rw [if_pos (by omega)]; first | rfl | (simp; done)) | (rw [if_neg (by omega)]; first | rfl | (simp; done)) | (simp; omega)), hst, hB6⟩
end Go.Proofs.YtijdghplfhfpaaaDoor.H

/- Boxes: box.apply: Flag, Copy. -/
namespace Go.Proofs.YtijdghplfhfpaaaDoor.H
open Go.RowKit Go.Proofs.YtijdghplfhfpaaaDoorW.PrintWords Go.Proofs.YtijdghplfhfpaaaDoorW.PrintLast Go.Proofs.YtijdghplfhfpaaaDoor.U
set_option linter.unusedVariables false
set_option linter.unusedSimpArgs false
section
variable {w : World} {base gm n cap j : Nat} {L : List AMail} {ok : Nat → Prop} {m : AMail}
theorem row_at (h : Kd.R kAMail 84 w base ok (.slice (some ⟨gm, 0, none⟩) n cap) L) (hj : j < L.length) (hm : L[j] = m) : w.cell? ⟨gm, j * 3, none⟩ = some (.int .i64 m.uid) ∧ w.cell? ⟨gm, j * 3 + 1, none⟩ = some (.int .i64 m.flags) ∧ w.cell? ⟨gm, j * 3 + 2, none⟩ = some (.string m.text) := by
  obtain ⟨ad, e1, hx0, hxj⟩ := flat_at (Kd.R_reads' h).2.2 j hj
  obtain rfl := Option.some.inj e1
  rw [hm] at hx0 hxj
  rw [add_plain] at hx0 hxj
  exact ⟨hx0 _ rfl, hxj 1 _ (by decide) rfl, hxj 2 _ (by decide) rfl⟩
theorem row_flag (h : Kd.R kAMail 84 w base ok (.slice (some ⟨gm, 0, none⟩) n cap) L) (hj : j < L.length) (hm : L[j] = m) (f : Int) :
    Kd.R kAMail 84 (w.setCell ⟨gm, j * 3 + 1, none⟩ (.int .i64 f)) base ok (.slice (some ⟨gm, 0, none⟩) n cap) (L.set j ⟨m.uid, f, m.text⟩) := by
  obtain ⟨hn, hnc, _⟩ := Kd.R_reads' h
  obtain ⟨z0, z1, z2⟩ := row_at h hj hm
  exact (Kd.R_seg h (j : Int) (Int.natCast_nonneg j) (by omega) (c := [.int .i64 m.uid, .int .i64 m.flags, .string m.text]) (seg := [.int .i64 f]) (j := 1) (x' := ⟨m.uid, f, m.text⟩) (okp := fun _ => False) rfl (fun j u hu => by
    match j, hu with
    | 0, hu => obtain rfl := Option.some.inj hu; exact z0
    | 1, hu => obtain rfl := Option.some.inj hu; exact z1
    | 2, hu => obtain rfl := Option.some.inj hu; exact z2
    | j + 3, hu => simp at hu) (by show 1 + 1 ≤ 3; omega) rfl (fun _ hk => hk.elim)).1
end
theorem mailV_miss {bs : List ABox} {i : Nat} {x : AEntry} (h2 : ¬ x.kind = 2) (h4 : ¬ x.kind = 4) (hf : findU x.uid (mailsAt bs i) 0 < 0) : mailV bs i x = (7, bs) := by
  rw [mailV, if_neg h2, if_neg h4, if_pos hf]
set_option maxHeartbeats 2000000 in
set_option maxRecDepth 100000 in
theorem apply_miss (pb i : Nat) (k : Int) (bx : ByteArray) (u f : Int) (to_ tx : ByteArray) (base : Nat) (bs : List ABox) (es : List AEntry) (w : World) (h : StB w base pb bs es) (hk : k = 3 ∨ k = 5) (hfi : findG bx bs 0 = (i : Int)) (hi : i < bs.length) (hfk : findU u (mailsAt bs i) 0 < 0) :
    Calls Tryd.prog 55 #[.pointer (some ⟨pb, 0, none⟩), .agg #[.int .i64 k, .string bx, .int .i64 u, .int .i64 f, .string to_, .string tx]] w fun e w' => e = .returned (.int .i64 (entV bs es ⟨k, bx, u, f, to_, tx⟩).1) ∧ StB w' base pb (entV bs es ⟨k, bx, u, f, to_, tx⟩).2.1 (entV bs es ⟨k, bx, u, f, to_, tx⟩).2.2 ∧ Below base w w' := by
  have hbase := h.bases
  have hpb := h.lt
  have b6 : (k == 6) = false := by rw [beq_eq_false_iff_ne]; omega
  have b1 : (k == 1) = false := by rw [beq_eq_false_iff_ne]; omega
  have b2 : (k == 2) = false := by rw [beq_eq_false_iff_ne]; omega
  have b4 : (k == 4) = false := by rw [beq_eq_false_iff_ne]; omega
  rw [entV_mail (x := ⟨k, bx, u, f, to_, tx⟩) (by show ¬ k = 6; omega) (by show ¬ k = 1; omega) hfi, mailV_miss (x := ⟨k, bx, u, f, to_, tx⟩) (by show ¬ k = 2; omega) (by show ¬ k = 4; omega) hfk]
  clear hk
  obtain ⟨nm, nx, l, hb⟩ : ∃ nm nx l, bs[i] = (nm, nx, l) := ⟨_, _, _, rfl⟩
  rw [mailsAt_of hi hb] at hfk
  have i0 : (0 : Int) ≤ (i : Int) := by omega
  have i1 : ¬ (i : Int) < 0 := by omega
  have i2 : (i : Int) < (bs.length : Int) := by omega
  obtain ⟨fk, hfkk⟩ : ∃ fk, findU u l 0 = fk := ⟨_, rfl⟩
  rw [hfkk] at hfk
  rw [findU_P] at hfkk
  obtain ⟨vB, vS, hk, hp, hS, hE⟩ := h
  obtain ⟨A, c, rfl, hc, hC⟩ := Kd.S_reads hS
  obtain ⟨A3, c3, rfl⟩ := Kd.R_slice hE
  have hEl := Kd.R_lt hE
  have hSl := Kd.S_lt hS
  obtain ⟨W1, hW1⟩ : ∃ W1 : World, W1 = w.alloc (.cells #[.int .i64 k, .string bx, .int .i64 u, .int .i64 f, .string to_, .string tx] 40) := ⟨_, rfl⟩
  have hX1 : Blk W1 w.heap.size [.int .i64 k, .string bx, .int .i64 u, .int .i64 f, .string to_, .string tx] := by rw [hW1]; exact Blk.made w _ _
  have hXT : W1.heap[w.heap.size]? = some (.cells #[.int .i64 k, .string bx, .int .i64 u, .int .i64 f, .string to_, .string tx] 40 (0, 0)) := by rw [hW1]; show (w.heap.push _)[w.heap.size]? = _; rw [Array.getElem?_push_size]
  have hb1 : Below w.heap.size w W1 := by rw [hW1]; exact (by repeat (first | exact Below.refl _ _ | apply below_alloc | apply pw_below_drewN | apply below_drew1 | (refine Below.setCell ?_ (by first | (simp; done) | (simp; omega) | omega) _) ))
  have hk1 := hk.below hb1 hpb
  have hz1 : W1.heap.size = w.heap.size + 1 := by rw [hW1]; simp
  have hC1 := Kd.C_below hC hb1
  have HF := fun W hr => find_calls A c bs bx W hr
  have d0 := cell_drew' (hk1.at 0 _ rfl)
  have d1 := cell_drew' (hX1.at 1 _ rfl)
  replace hW1 := Lib.hid hW1
  simp only [hfi] at HF
  clear hfi
  replace HF := Lib.hid HF
  go_enter Tryd.func55, Tryd.ntmps55
  go_wp2_with fail
  rw [← hW1.out]
  go_region_held3 (fun w' => w'.cell? ⟨pb, 0, none⟩ = some (.slice A bs.length c) ∧ w'.cell? ⟨w.heap.size, 1, none⟩ = some (.string bx)) (first | exact ⟨d0, d1⟩ | exact ⟨k0, k1⟩ | go_keep) ((go_at_call 47; refine (HF.out _ (Kd.C_below hC1 (by repeat (first | exact Below.refl _ _ | apply below_alloc | apply pw_below_drewN | apply below_drew1 | (refine Below.setCell ?_ (by first | (simp; done) | (simp; omega) | omega) _) )))).mono ?_; rintro e w5 ⟨rfl, hb5⟩; have k0 := (hb5.cell (lt_of_cell' d0)).trans d0; have k1 := (hb5.cell (lt_of_cell' d1)).trans d1))
  have hb6 : Below W1.heap.size W1 w5 := Below.trans (show Below W1.heap.size W1 W1.drew from (by repeat (first | exact Below.refl _ _ | apply below_alloc | apply pw_below_drewN | apply below_drew1 | (refine Below.setCell ?_ (by first | (simp; done) | (simp; omega) | omega) _) ))) (hb5.mono (by simp))
  have hz5 := hb6.size
  have hX5 := hX1.below hb6 (by omega)
  have hXT5 := (hb6.block w.heap.size (by omega)).trans hXT
  clear hXT
  have hk5 := hk1.below hb6 (by omega)
  have hS5 := Kd.S_below (Kd.S_below hS hb1) hb6
  have hE5 := Kd.R_below (Kd.R_below hE hb1) hb6
  have hB5 := (hb1.mono hbase).trans (hb6.mono (by omega))
  clear hX1 hk1 hC1 hb5 d0 d1 k0 k1 hk hS hE hC
  have m0 := hk5.at 0 _ rfl
  have m1 := hk5.at 1 _ rfl
  have x0 := hX5.at 0 _ rfl
  have x1 := hX5.at 1 _ rfl
  have x2 := hX5.at 2 _ rfl
  have x3 := hX5.at 3 _ rfl
  have x4 := hX5.at 4 _ rfl
  have x5 := hX5.at 5 _ rfl
  obtain ⟨g, cap, hAc, hgb, hgl, cells, hgc⟩ := Kd.S_form hS5 (by omega)
  injection hAc with hAc1 _ hAc2
  subst hAc1
  subst hAc2
  obtain ⟨oki, vM, y0, y1, y2, f1, f2, hR, hoki, hH⟩ := box_lend hS5 hi hb
  obtain ⟨Am, cm, rfl⟩ := Kd.R_slice hR
  have hng : g ≠ pb := fun he => (Kd.S_R hS5).1 g (by simp [Value.ownBlock]) he
  have hng2 : pb ≠ g := Ne.symm hng
  have hgx : g < w.heap.size := hSl g (by simp [Value.ownBlock])
  have ea : (⟨g, 0, none⟩ : Addr).add (i * 3) = ⟨g, i * 3, none⟩ := add_plain _ _
  have hgo : some g ≠ (Value.slice Am l.length cm).ownBlock := fun he => (hoki g (hR.1 g he.symm)).2 rfl
  have hpo : some pb ≠ (Value.slice Am l.length cm).ownBlock := fun he => (hoki pb (hR.1 pb he.symm)).1 rfl
  have HI := indexU_calls u w.heap.size Am cm l (fun m => decide (m.uid = u)) w5 (Kd.R_reads' hR).2.2 rfl x2 (by omega)
  rw [hfkk] at HI
  replace HI := Lib.hid HI
  have hst : StB w5 base pb bs es := ⟨_, _, hk5, hp, hS5, hE5⟩
  clear hfkk
  go_wp2_with fail
  refine HI.out.mono ?_
  rintro e w6 ⟨rfl, hb7⟩
  go_wp2_with fail
  go_ret
  exact ⟨(by first | rfl | (simp; done) | (simp [*]; done) | (rw [if_pos (by omega)]; first | rfl | (simp; done)) | (rw [if_neg (by omega)]; first | rfl | (simp; done)) | (simp; omega)), hst.new hb7, hB5.trans (hb7.mono (by omega))⟩
set_option maxHeartbeats 2000000 in
set_option maxRecDepth 100000 in
theorem apply_flag (pb i j : Nat) (bx : ByteArray) (u f : Int) (to_ tx : ByteArray) (base : Nat) (bs : List ABox) (es : List AEntry) (w : World) (h : StB w base pb bs es) (hfi : findG bx bs 0 = (i : Int)) (hi : i < bs.length) (hfk : findU u (mailsAt bs i) 0 = (j : Int)) (hj : j < (mailsAt bs i).length) :
    Calls Tryd.prog 55 #[.pointer (some ⟨pb, 0, none⟩), .agg #[.int .i64 3, .string bx, .int .i64 u, .int .i64 f, .string to_, .string tx]] w fun e w' => e = .returned (.int .i64 (entV bs es ⟨3, bx, u, f, to_, tx⟩).1) ∧ StB w' base pb (entV bs es ⟨3, bx, u, f, to_, tx⟩).2.1 (entV bs es ⟨3, bx, u, f, to_, tx⟩).2.2 ∧ Below base w w' := by
  have hbase := h.bases
  have hpb := h.lt
  obtain ⟨nm, nx, l, hb⟩ : ∃ nm nx l, bs[i] = (nm, nx, l) := ⟨_, _, _, rfl⟩
  rw [mailsAt_of hi hb] at hfk hj
  obtain ⟨m, hm⟩ : ∃ m, l[j] = m := ⟨_, rfl⟩
  have hmv : mailV bs i ⟨3, bx, u, f, to_, tx⟩ = (0, bs.set i (nm, nx, l.set j ⟨m.uid, f, m.text⟩)) := by
    rw [← putMails_of hi hb, mailV, if_neg (by show ¬ ((3 : Int) = 2); decide), if_neg (by show ¬ ((3 : Int) = 4); decide), mailsAt_of hi hb]
    simp only [hfk]
    rw [if_neg (by omega), if_pos trivial, Int.toNat_natCast, flagsAt, List.getElem?_eq_getElem hj, hm]
  rw [entV_mail (x := ⟨3, bx, u, f, to_, tx⟩) (by show ¬ ((3 : Int) = 6); decide) (by show ¬ ((3 : Int) = 1); decide) hfi, hmv]
  rw [findU_P] at hfk
  have i0 : (0 : Int) ≤ (i : Int) := by omega
  have i1 : ¬ (i : Int) < 0 := by omega
  have i2 : (i : Int) < (bs.length : Int) := by omega
  have j0 : (0 : Int) ≤ (j : Int) := by omega
  have j1 : ¬ (j : Int) < 0 := by omega
  have j2 : (j : Int) < (l.length : Int) := by omega
  obtain ⟨vB, vS, hk, hp, hS, hE⟩ := h
  obtain ⟨A, c, rfl, hc, hC⟩ := Kd.S_reads hS
  obtain ⟨A3, c3, rfl⟩ := Kd.R_slice hE
  have hEl := Kd.R_lt hE
  have hSl := Kd.S_lt hS
  obtain ⟨W1, hW1⟩ : ∃ W1 : World, W1 = w.alloc (.cells #[.int .i64 3, .string bx, .int .i64 u, .int .i64 f, .string to_, .string tx] 40) := ⟨_, rfl⟩
  have hX1 : Blk W1 w.heap.size [.int .i64 3, .string bx, .int .i64 u, .int .i64 f, .string to_, .string tx] := by rw [hW1]; exact Blk.made w _ _
  have hXT : W1.heap[w.heap.size]? = some (.cells #[.int .i64 3, .string bx, .int .i64 u, .int .i64 f, .string to_, .string tx] 40 (0, 0)) := by rw [hW1]; show (w.heap.push _)[w.heap.size]? = _; rw [Array.getElem?_push_size]
  have hb1 : Below w.heap.size w W1 := by rw [hW1]; exact (by repeat (first | exact Below.refl _ _ | apply below_alloc | apply pw_below_drewN | apply below_drew1 | (refine Below.setCell ?_ (by first | (simp; done) | (simp; omega) | omega) _) ))
  have hk1 := hk.below hb1 hpb
  have hz1 : W1.heap.size = w.heap.size + 1 := by rw [hW1]; simp
  have hC1 := Kd.C_below hC hb1
  have HF := fun W hr => find_calls A c bs bx W hr
  have d0 := cell_drew' (hk1.at 0 _ rfl)
  have d1 := cell_drew' (hX1.at 1 _ rfl)
  replace hW1 := Lib.hid hW1
  simp only [hfi] at HF
  clear hfi hmv
  replace HF := Lib.hid HF
  go_enter Tryd.func55, Tryd.ntmps55
  go_wp2_with fail
  rw [← hW1.out]
  go_region_held3 (fun w' => w'.cell? ⟨pb, 0, none⟩ = some (.slice A bs.length c) ∧ w'.cell? ⟨w.heap.size, 1, none⟩ = some (.string bx)) (first | exact ⟨d0, d1⟩ | exact ⟨k0, k1⟩ | go_keep) ((go_at_call 47; refine (HF.out _ (Kd.C_below hC1 (by repeat (first | exact Below.refl _ _ | apply below_alloc | apply pw_below_drewN | apply below_drew1 | (refine Below.setCell ?_ (by first | (simp; done) | (simp; omega) | omega) _) )))).mono ?_; rintro e w5 ⟨rfl, hb5⟩; have k0 := (hb5.cell (lt_of_cell' d0)).trans d0; have k1 := (hb5.cell (lt_of_cell' d1)).trans d1))
  have hb6 : Below W1.heap.size W1 w5 := Below.trans (show Below W1.heap.size W1 W1.drew from (by repeat (first | exact Below.refl _ _ | apply below_alloc | apply pw_below_drewN | apply below_drew1 | (refine Below.setCell ?_ (by first | (simp; done) | (simp; omega) | omega) _) ))) (hb5.mono (by simp))
  have hz5 := hb6.size
  have hX5 := hX1.below hb6 (by omega)
  have hXT5 := (hb6.block w.heap.size (by omega)).trans hXT
  clear hXT
  have hk5 := hk1.below hb6 (by omega)
  have hS5 := Kd.S_below (Kd.S_below hS hb1) hb6
  have hE5 := Kd.R_below (Kd.R_below hE hb1) hb6
  have hB5 := (hb1.mono hbase).trans (hb6.mono (by omega))
  clear hX1 hk1 hC1 hb5 d0 d1 k0 k1 hk hS hE hC
  have m0 := hk5.at 0 _ rfl
  have m1 := hk5.at 1 _ rfl
  have x0 := hX5.at 0 _ rfl
  have x1 := hX5.at 1 _ rfl
  have x2 := hX5.at 2 _ rfl
  have x3 := hX5.at 3 _ rfl
  have x4 := hX5.at 4 _ rfl
  have x5 := hX5.at 5 _ rfl
  obtain ⟨g, cap, hAc, hgb, hgl, cells, hgc⟩ := Kd.S_form hS5 (by omega)
  injection hAc with hAc1 _ hAc2
  subst hAc1
  subst hAc2
  obtain ⟨oki, vM, y0, y1, y2, f1, f2, hR, hoki, hH⟩ := box_lend hS5 hi hb
  obtain ⟨Am, cm, rfl⟩ := Kd.R_slice hR
  have hng : g ≠ pb := fun he => (Kd.S_R hS5).1 g (by simp [Value.ownBlock]) he
  have hng2 : pb ≠ g := Ne.symm hng
  have hgx : g < w.heap.size := hSl g (by simp [Value.ownBlock])
  have ea : (⟨g, 0, none⟩ : Addr).add (i * 3) = ⟨g, i * 3, none⟩ := add_plain _ _
  have hgo : some g ≠ (Value.slice Am l.length cm).ownBlock := fun he => (hoki g (hR.1 g he.symm)).2 rfl
  have hpo : some pb ≠ (Value.slice Am l.length cm).ownBlock := fun he => (hoki pb (hR.1 pb he.symm)).1 rfl
  have HI := indexU_calls u w.heap.size Am cm l (fun m => decide (m.uid = u)) w5 (Kd.R_reads' hR).2.2 rfl x2 (by omega)
  rw [hfk] at HI
  replace HI := Lib.hid HI
  clear hfk
  obtain ⟨gm, cm', hAm, hmb, hml, mc, hmt⟩ := Kd.R_form hR (by omega)
  injection hAm with hAm1 _ hAm2
  subst hAm1
  subst hAm2
  go_wp2_with fail
  refine HI.out.mono ?_
  rintro e w6 ⟨rfl, hb7⟩
  have hz6 := hb7.size
  have hk6 := (hk5.below hb7 (by omega)).drew
  have hX6 := (hX5.below hb7 (by omega)).drew
  have hR6 := Kd.R_drew (Kd.R_below hR hb7)
  have hH6 := Kd.H_drew (Kd.H_below hH hb7)
  have hE6 := Kd.R_drew (Kd.R_below hE5 hb7)
  have hB6 := below_drew (hB5.trans (hb7.mono (by omega)))
  have z2 := cell_drew' ((hb7.cell (p := ⟨g, i * 3 + 2, none⟩) hgl).trans y2)
  have z0 := hk6.at 0 _ rfl
  have z3 := hX6.at 3 _ rfl
  have q0 := (hk5.below hb7 (by omega)).at 0 _ rfl
  have q1 := (hX5.below hb7 (by omega)).at 0 _ rfl
  obtain ⟨_, hcapm, _⟩ := Kd.R_reads' hR6
  obtain ⟨⟨uo, zo⟩, zf⟩ := row_cells hR6 (j * 3 + 1) (by omega)
  have e2 : (⟨gm, 0, none⟩ : Addr).add (j * 3) = ⟨gm, j * 3, none⟩ := add_plain _ _
  have n1 : pb ≠ gm := fun he => hpo (by rw [he]; rfl)
  have n2 : g ≠ gm := fun he => hgo (by rw [he]; rfl)
  have hokm := (hoki gm (hR.1 gm rfl))
  have hgmx : w.heap.size ≠ gm := by
    intro he
    rw [← he, hXT5] at hmt
    injection hmt with hmt
    injection hmt with _ hmt _
    revert hmt; decide
  have z0' := cell_other' z0 (c := gm) (j := j * 3 + 1) n1 (.int .i64 f)
  have z2' := cell_other' z2 (c := gm) (j := j * 3 + 1) n2 (.int .i64 f)
  have z3' := cell_other' z3 (c := gm) (j := j * 3 + 1) hgmx (.int .i64 f)
  have hmt6 : w6.drew.heap[gm]? = some (.cells mc 84 (0, 0)) := (hb7.block gm hml).trans hmt
  have hgr : w6.drew.grownBy (w6.drew.setCell ⟨gm, j * 3 + 1, none⟩ (.int .i64 f)) (some gm) := grown_set (World.grownBy.refl _ _) _ _
  have hR7 := row_flag hR6 hj hm f
  have hS7 := box_back (Kd.H_grown hH6 hgr (fun k hk => by obtain rfl := Option.some.inj hk; exact hR.1 _ rfl)) hR7
  have hE7 := Kd.R_mono (Kd.R_far (p := ⟨gm, j * 3 + 1, none⟩) (Kd.R_types hE6 hmt6 (by decide)) (fun k hk => hk.2) (.int .i64 f)) (fun k hk => hk.1)
  have hst : StB (w6.drew.setCell ⟨gm, j * 3 + 1, none⟩ (.int .i64 f)) base pb (bs.set i (nm, nx, l.set j ⟨m.uid, f, m.text⟩)) es := ⟨_, _, hk6.other (c := gm) (j := j * 3 + 1) (fun he => n1 he.symm) _, hp, hS7, hE7⟩
  have hB7 := Below.setCell (p := ⟨gm, j * 3 + 1, none⟩) hB6 hmb (.int .i64 f)
  clear hR hH hS5 hE5 hR6 hH6 hE6 hR7 hS7 hE7 hmt6 hmt hgr hb7 hXT5 hgc
  go_wp2_with fail
  go_region_held3 (fun w' => w'.cell? ⟨pb, 0, none⟩ = some (.slice (some ⟨g, 0, none⟩) bs.length c) ∧ w'.cell? ⟨g, i * 3 + 2, none⟩ = some (.slice (some ⟨gm, 0, none⟩) l.length cm) ∧ w'.cell? ⟨w.heap.size, 3, none⟩ = some (.int .i64 f))
    (first | exact ⟨z0, z2, z3⟩ | exact ⟨z0', z2', z3'⟩ | go_keep) (fail)
  go_wp2_with fail
  go_ret
  exact ⟨(by first | rfl | (simp; done) | (simp [*]; done) | (rw [if_pos (by omega)]; first | rfl | (simp; done)) | (rw [if_neg (by omega)]; first | rfl | (simp; done)) | (simp; omega)), hst, hB7⟩
end Go.Proofs.YtijdghplfhfpaaaDoor.H

/- Boxes: box.apply: Create. -/
namespace Go.Proofs.YtijdghplfhfpaaaDoor.H
open Go.RowKit Go.Proofs.YtijdghplfhfpaaaDoorW.PrintWords Go.Proofs.YtijdghplfhfpaaaDoorW.PrintLast Go.Proofs.YtijdghplfhfpaaaDoor.U
set_option linter.unusedVariables false
set_option linter.unusedSimpArgs false
set_option maxHeartbeats 2000000 in
set_option maxRecDepth 100000 in
theorem apply_create (pb : Nat) (bx : ByteArray) (u f : Int) (to_ tx : ByteArray) (base : Nat) (bs : List ABox) (es : List AEntry) (w : World) (h : StB w base pb bs es) (hinv : InvS bs es) :
    Calls Tryd.prog 55 #[.pointer (some ⟨pb, 0, none⟩), .agg #[.int .i64 1, .string bx, .int .i64 u, .int .i64 f, .string to_, .string tx]] w fun e w' => e = .returned (.int .i64 (entV bs es ⟨1, bx, u, f, to_, tx⟩).1) ∧ StB w' base pb (entV bs es ⟨1, bx, u, f, to_, tx⟩).2.1 (entV bs es ⟨1, bx, u, f, to_, tx⟩).2.2 ∧ Below base w w' := by
  have hbase := h.bases
  have hpb := h.lt
  have hev : entV bs es ⟨1, bx, u, f, to_, tx⟩ = if 0 ≤ findG bx bs 0 then (10, bs, es) else if 5 ≤ bs.length then (5, bs, es) else (0, bs ++ [(bx, 1, [])], es) := (if_neg (by show ¬ ((1 : Int) = 6); decide)).trans (if_pos rfl)
  rw [hev]
  clear hev
  have h5 := hinv.1
  obtain ⟨fi, hfi⟩ : ∃ fi, findG bx bs 0 = fi := ⟨_, rfl⟩
  rw [hfi]
  by_cases hf0 : 0 ≤ fi
  · rw [if_pos hf0]
    obtain ⟨vB, vS, hk, hp, hS, hE⟩ := h
    obtain ⟨A, c, rfl, hc, hC⟩ := Kd.S_reads hS
    obtain ⟨A3, c3, rfl⟩ := Kd.R_slice hE
    have hEl := Kd.R_lt hE
    have hSl := Kd.S_lt hS
    obtain ⟨W1, hW1⟩ : ∃ W1 : World, W1 = w.alloc (.cells #[.int .i64 1, .string bx, .int .i64 u, .int .i64 f, .string to_, .string tx] 40) := ⟨_, rfl⟩
    have hX1 : Blk W1 w.heap.size [.int .i64 1, .string bx, .int .i64 u, .int .i64 f, .string to_, .string tx] := by rw [hW1]; exact Blk.made w _ _
    have hXT : W1.heap[w.heap.size]? = some (.cells #[.int .i64 1, .string bx, .int .i64 u, .int .i64 f, .string to_, .string tx] 40 (0, 0)) := by rw [hW1]; show (w.heap.push _)[w.heap.size]? = _; rw [Array.getElem?_push_size]
    have hb1 : Below w.heap.size w W1 := by rw [hW1]; exact (by repeat (first | exact Below.refl _ _ | apply below_alloc | apply pw_below_drewN | apply below_drew1 | (refine Below.setCell ?_ (by first | (simp; done) | (simp; omega) | omega) _) ))
    have hk1 := hk.below hb1 hpb
    have hz1 : W1.heap.size = w.heap.size + 1 := by rw [hW1]; simp
    have hC1 := Kd.C_below hC hb1
    have HF := fun W hr => find_calls A c bs bx W hr
    have d0 := cell_drew' (hk1.at 0 _ rfl)
    have d1 := cell_drew' (hX1.at 1 _ rfl)
    replace hW1 := Lib.hid hW1
    simp only [hfi] at HF
    clear hfi
    replace HF := Lib.hid HF
    go_enter Tryd.func55, Tryd.ntmps55
    go_wp2_with fail
    rw [← hW1.out]
    go_region_held3 (fun w' => w'.cell? ⟨pb, 0, none⟩ = some (.slice A bs.length c) ∧ w'.cell? ⟨w.heap.size, 1, none⟩ = some (.string bx)) (first | exact ⟨d0, d1⟩ | exact ⟨k0, k1⟩ | go_keep) ((go_at_call 47; refine (HF.out _ (Kd.C_below hC1 (by repeat (first | exact Below.refl _ _ | apply below_alloc | apply pw_below_drewN | apply below_drew1 | (refine Below.setCell ?_ (by first | (simp; done) | (simp; omega) | omega) _) )))).mono ?_; rintro e w5 ⟨rfl, hb5⟩; have k0 := (hb5.cell (lt_of_cell' d0)).trans d0; have k1 := (hb5.cell (lt_of_cell' d1)).trans d1))
    have hb6 : Below W1.heap.size W1 w5 := Below.trans (show Below W1.heap.size W1 W1.drew from (by repeat (first | exact Below.refl _ _ | apply below_alloc | apply pw_below_drewN | apply below_drew1 | (refine Below.setCell ?_ (by first | (simp; done) | (simp; omega) | omega) _) ))) (hb5.mono (by simp))
    have hz5 := hb6.size
    have hX5 := hX1.below hb6 (by omega)
    have hXT5 := (hb6.block w.heap.size (by omega)).trans hXT
    clear hXT
    have hk5 := hk1.below hb6 (by omega)
    have hS5 := Kd.S_below (Kd.S_below hS hb1) hb6
    have hE5 := Kd.R_below (Kd.R_below hE hb1) hb6
    have hB5 := (hb1.mono hbase).trans (hb6.mono (by omega))
    clear hX1 hk1 hC1 hb5 d0 d1 k0 k1 hk hS hE hC
    have m0 := hk5.at 0 _ rfl
    have m1 := hk5.at 1 _ rfl
    have x0 := hX5.at 0 _ rfl
    have x1 := hX5.at 1 _ rfl
    have x2 := hX5.at 2 _ rfl
    have x3 := hX5.at 3 _ rfl
    have x4 := hX5.at 4 _ rfl
    have x5 := hX5.at 5 _ rfl
    go_wp2_with fail
    go_ret
    exact ⟨(by first | rfl | (simp; done) | (simp [*]; done) | (rw [if_pos (by omega)]; first | rfl | (simp; done)) | (rw [if_neg (by omega)]; first | rfl | (simp; done)) | (simp; omega)), ⟨_, _, hk5, hp, hS5, hE5⟩, hB5⟩
  · rw [if_neg hf0]
    by_cases hf : bs.length = 5
    · rw [if_pos (by omega)]
      have e5 : ((bs.length : Int) == 5) = true := by rw [beq_iff_eq]; omega
      clear hf
      obtain ⟨vB, vS, hk, hp, hS, hE⟩ := h
      obtain ⟨A, c, rfl, hc, hC⟩ := Kd.S_reads hS
      obtain ⟨A3, c3, rfl⟩ := Kd.R_slice hE
      have hEl := Kd.R_lt hE
      have hSl := Kd.S_lt hS
      obtain ⟨W1, hW1⟩ : ∃ W1 : World, W1 = w.alloc (.cells #[.int .i64 1, .string bx, .int .i64 u, .int .i64 f, .string to_, .string tx] 40) := ⟨_, rfl⟩
      have hX1 : Blk W1 w.heap.size [.int .i64 1, .string bx, .int .i64 u, .int .i64 f, .string to_, .string tx] := by rw [hW1]; exact Blk.made w _ _
      have hXT : W1.heap[w.heap.size]? = some (.cells #[.int .i64 1, .string bx, .int .i64 u, .int .i64 f, .string to_, .string tx] 40 (0, 0)) := by rw [hW1]; show (w.heap.push _)[w.heap.size]? = _; rw [Array.getElem?_push_size]
      have hb1 : Below w.heap.size w W1 := by rw [hW1]; exact (by repeat (first | exact Below.refl _ _ | apply below_alloc | apply pw_below_drewN | apply below_drew1 | (refine Below.setCell ?_ (by first | (simp; done) | (simp; omega) | omega) _) ))
      have hk1 := hk.below hb1 hpb
      have hz1 : W1.heap.size = w.heap.size + 1 := by rw [hW1]; simp
      have hC1 := Kd.C_below hC hb1
      have HF := fun W hr => find_calls A c bs bx W hr
      have d0 := cell_drew' (hk1.at 0 _ rfl)
      have d1 := cell_drew' (hX1.at 1 _ rfl)
      replace hW1 := Lib.hid hW1
      simp only [hfi] at HF
      clear hfi
      replace HF := Lib.hid HF
      go_enter Tryd.func55, Tryd.ntmps55
      go_wp2_with fail
      rw [← hW1.out]
      go_region_held3 (fun w' => w'.cell? ⟨pb, 0, none⟩ = some (.slice A bs.length c) ∧ w'.cell? ⟨w.heap.size, 1, none⟩ = some (.string bx)) (first | exact ⟨d0, d1⟩ | exact ⟨k0, k1⟩ | go_keep) ((go_at_call 47; refine (HF.out _ (Kd.C_below hC1 (by repeat (first | exact Below.refl _ _ | apply below_alloc | apply pw_below_drewN | apply below_drew1 | (refine Below.setCell ?_ (by first | (simp; done) | (simp; omega) | omega) _) )))).mono ?_; rintro e w5 ⟨rfl, hb5⟩; have k0 := (hb5.cell (lt_of_cell' d0)).trans d0; have k1 := (hb5.cell (lt_of_cell' d1)).trans d1))
      have hb6 : Below W1.heap.size W1 w5 := Below.trans (show Below W1.heap.size W1 W1.drew from (by repeat (first | exact Below.refl _ _ | apply below_alloc | apply pw_below_drewN | apply below_drew1 | (refine Below.setCell ?_ (by first | (simp; done) | (simp; omega) | omega) _) ))) (hb5.mono (by simp))
      have hz5 := hb6.size
      have hX5 := hX1.below hb6 (by omega)
      have hXT5 := (hb6.block w.heap.size (by omega)).trans hXT
      clear hXT
      have hk5 := hk1.below hb6 (by omega)
      have hS5 := Kd.S_below (Kd.S_below hS hb1) hb6
      have hE5 := Kd.R_below (Kd.R_below hE hb1) hb6
      have hB5 := (hb1.mono hbase).trans (hb6.mono (by omega))
      clear hX1 hk1 hC1 hb5 d0 d1 k0 k1 hk hS hE hC
      have m0 := hk5.at 0 _ rfl
      have m1 := hk5.at 1 _ rfl
      have x0 := hX5.at 0 _ rfl
      have x1 := hX5.at 1 _ rfl
      have x2 := hX5.at 2 _ rfl
      have x3 := hX5.at 3 _ rfl
      have x4 := hX5.at 4 _ rfl
      have x5 := hX5.at 5 _ rfl
      go_wp2_with fail
      go_ret
      exact ⟨(by first | rfl | (simp; done) | (simp [*]; done) | (rw [if_pos (by omega)]; first | rfl | (simp; done)) | (rw [if_neg (by omega)]; first | rfl | (simp; done)) | (simp; omega)), ⟨_, _, hk5, hp, hS5, hE5⟩, hB5⟩
    · rw [if_neg (by omega)]
      have e5 : ((bs.length : Int) == 5) = false := by rw [beq_eq_false_iff_ne]; omega
      clear hf
      obtain ⟨vB, vS, hk, hp, hS, hE⟩ := h
      obtain ⟨A, c, rfl, hc, hC⟩ := Kd.S_reads hS
      obtain ⟨A3, c3, rfl⟩ := Kd.R_slice hE
      have hEl := Kd.R_lt hE
      have hSl := Kd.S_lt hS
      obtain ⟨W1, hW1⟩ : ∃ W1 : World, W1 = w.alloc (.cells #[.int .i64 1, .string bx, .int .i64 u, .int .i64 f, .string to_, .string tx] 40) := ⟨_, rfl⟩
      have hX1 : Blk W1 w.heap.size [.int .i64 1, .string bx, .int .i64 u, .int .i64 f, .string to_, .string tx] := by rw [hW1]; exact Blk.made w _ _
      have hXT : W1.heap[w.heap.size]? = some (.cells #[.int .i64 1, .string bx, .int .i64 u, .int .i64 f, .string to_, .string tx] 40 (0, 0)) := by rw [hW1]; show (w.heap.push _)[w.heap.size]? = _; rw [Array.getElem?_push_size]
      have hb1 : Below w.heap.size w W1 := by rw [hW1]; exact (by repeat (first | exact Below.refl _ _ | apply below_alloc | apply pw_below_drewN | apply below_drew1 | (refine Below.setCell ?_ (by first | (simp; done) | (simp; omega) | omega) _) ))
      have hk1 := hk.below hb1 hpb
      have hz1 : W1.heap.size = w.heap.size + 1 := by rw [hW1]; simp
      have hC1 := Kd.C_below hC hb1
      have HF := fun W hr => find_calls A c bs bx W hr
      have d0 := cell_drew' (hk1.at 0 _ rfl)
      have d1 := cell_drew' (hX1.at 1 _ rfl)
      replace hW1 := Lib.hid hW1
      simp only [hfi] at HF
      clear hfi
      replace HF := Lib.hid HF
      go_enter Tryd.func55, Tryd.ntmps55
      go_wp2_with fail
      rw [← hW1.out]
      go_region_held3 (fun w' => w'.cell? ⟨pb, 0, none⟩ = some (.slice A bs.length c) ∧ w'.cell? ⟨w.heap.size, 1, none⟩ = some (.string bx)) (first | exact ⟨d0, d1⟩ | exact ⟨k0, k1⟩ | go_keep) ((go_at_call 47; refine (HF.out _ (Kd.C_below hC1 (by repeat (first | exact Below.refl _ _ | apply below_alloc | apply pw_below_drewN | apply below_drew1 | (refine Below.setCell ?_ (by first | (simp; done) | (simp; omega) | omega) _) )))).mono ?_; rintro e w5 ⟨rfl, hb5⟩; have k0 := (hb5.cell (lt_of_cell' d0)).trans d0; have k1 := (hb5.cell (lt_of_cell' d1)).trans d1))
      have hb6 : Below W1.heap.size W1 w5 := Below.trans (show Below W1.heap.size W1 W1.drew from (by repeat (first | exact Below.refl _ _ | apply below_alloc | apply pw_below_drewN | apply below_drew1 | (refine Below.setCell ?_ (by first | (simp; done) | (simp; omega) | omega) _) ))) (hb5.mono (by simp))
      have hz5 := hb6.size
      have hX5 := hX1.below hb6 (by omega)
      have hXT5 := (hb6.block w.heap.size (by omega)).trans hXT
      clear hXT
      have hk5 := hk1.below hb6 (by omega)
      have hS5 := Kd.S_below (Kd.S_below hS hb1) hb6
      have hE5 := Kd.R_below (Kd.R_below hE hb1) hb6
      have hB5 := (hb1.mono hbase).trans (hb6.mono (by omega))
      clear hX1 hk1 hC1 hb5 d0 d1 k0 k1 hk hS hE hC
      have m0 := hk5.at 0 _ rfl
      have m1 := hk5.at 1 _ rfl
      have x0 := hX5.at 0 _ rfl
      have x1 := hX5.at 1 _ rfl
      have x2 := hX5.at 2 _ rfl
      have x3 := hX5.at 3 _ rfl
      have x4 := hX5.at 4 _ rfl
      have x5 := hX5.at 5 _ rfl
      go_wp2_with fail
      have hSd := Kd.S_drew hS5
      have m0d := cell_drew' m0
      have hpx : pb ≠ w.heap.size := by omega
      have m0a := cell_alloc' m0 (.cells #[.string bx, .int .i64 1, .slice none 0 0] 77)
      refine wp_region_held_drew (S := fun w' => w'.cell? ⟨w.heap.size, 1, none⟩ = some (.string bx)) (by kernel_rfl) ?_ (fun hHeld => ?_)
      · exact hX5.drew.at 1 _ rfl
      refine wpAnyH_take (i := 0) (oi := { dst := some 54, op := _, type := _, pos := _, after := _, guard := _ }) (v := .pointer (some ⟨pb, 0, none⟩)) rfl (by kernel_rfl) (by kernel_rfl) (by kernel_rfl) (fun _ _ _ h => h) (Or.inl ⟨by rfl, by (intro w hSw; (try dsimp only at hSw); first | (go_simp; done) | (go_simp; with_reducible rfl) | (go_simp; omega) | (go_simp; simp [*]; done))⟩) (by assumption) ?_; try simp only [Act.put, List.setIfInBounds_toArray, List.set_cons_zero, List.set_cons_succ]
      refine wpAnyH_take (i := 1) (oi := { dst := some 55, op := _, type := _, pos := _, after := _, guard := _ }) (v := .pointer (some ⟨pb, 0, none⟩)) rfl (by kernel_rfl) (by kernel_rfl) (by kernel_rfl) (fun _ _ _ h => h) (Or.inl ⟨by rfl, by (intro w hSw; (try dsimp only at hSw); first | (go_simp; done) | (go_simp; with_reducible rfl) | (go_simp; omega) | (go_simp; simp [*]; done))⟩) (by assumption) ?_; try simp only [Act.put, List.setIfInBounds_toArray, List.set_cons_zero, List.set_cons_succ]
      refine wpAnyH_take (i := 2) (oi := { dst := some 56, op := _, type := _, pos := _, after := _, guard := _ }) (v := .pointer (some ⟨pb, 0, none⟩)) rfl (by kernel_rfl) (by kernel_rfl) (by kernel_rfl) (fun _ _ _ h => h) (Or.inl ⟨by rfl, by (intro w hSw; (try dsimp only at hSw); first | (go_simp; done) | (go_simp; with_reducible rfl) | (go_simp; omega) | (go_simp; simp [*]; done))⟩) (by assumption) ?_; try simp only [Act.put, List.setIfInBounds_toArray, List.set_cons_zero, List.set_cons_succ]
      refine wpAnyH_take (i := 3) (oi := { dst := some 57, op := _, type := _, pos := _, after := _, guard := _ }) (v := .pointer (some ⟨pb, 0, none⟩)) rfl (by kernel_rfl) (by kernel_rfl) (by kernel_rfl) (fun _ _ _ h => h) (Or.inl ⟨by rfl, by (intro w hSw; (try dsimp only at hSw); first | (go_simp; done) | (go_simp; with_reducible rfl) | (go_simp; omega) | (go_simp; simp [*]; done))⟩) (by assumption) ?_; try simp only [Act.put, List.setIfInBounds_toArray, List.set_cons_zero, List.set_cons_succ]
      refine wpAnyH_take (i := 5) (oi := { dst := some 59, op := _, type := _, pos := _, after := _, guard := _ }) (v := .pointer (some ⟨w.heap.size, 1, none⟩)) rfl (by kernel_rfl) (by kernel_rfl) (by kernel_rfl) (fun _ _ _ h => h) (Or.inl ⟨by rfl, by (intro w hSw; (try dsimp only at hSw); first | (go_simp; done) | (go_simp; with_reducible rfl) | (go_simp; omega) | (go_simp; simp [*]; done))⟩) (by assumption) ?_; try simp only [Act.put, List.setIfInBounds_toArray, List.set_cons_zero, List.set_cons_succ]
      refine wpAnyH_take (i := 6) (oi := { dst := some 60, op := _, type := _, pos := _, after := _, guard := _ }) (v := .string bx) rfl (by kernel_rfl) (by kernel_rfl) (by kernel_rfl) (fun _ _ _ h => h) (Or.inl ⟨by rfl, by (intro w hSw; (try dsimp only at hSw); first | (go_simp; done) | (go_simp; with_reducible rfl) | (go_simp; omega) | (go_simp; simp [*]; done))⟩) (by assumption) ?_; try simp only [Act.put, List.setIfInBounds_toArray, List.set_cons_zero, List.set_cons_succ]
      refine wpAnyH_take (i := 7) (oi := { dst := some 61, op := _, type := _, pos := _, after := _, guard := _ }) (v := .agg #[.string bx, .int .i64 1, .slice none 0 0]) rfl (by kernel_rfl) (by kernel_rfl) (by kernel_rfl) (fun _ _ _ h => h) (Or.inl ⟨by rfl, by (intro w hSw; (try dsimp only at hSw); first | (go_simp; done) | (go_simp; with_reducible rfl) | (go_simp; omega) | (go_simp; simp [*]; done))⟩) (by assumption) ?_; try simp only [Act.put, List.setIfInBounds_toArray, List.set_cons_zero, List.set_cons_succ]
      refine wpAnyH_ready (rs := [4, 8]) (by kernel_rfl) (by simp) ?_
      refine AllReadyH.cons (o := { dst := some 58, op := _, type := _, pos := _, after := _, guard := _ }) rfl (fun K hK => ?_) (AllReadyH.cons (o := { dst := some 62, op := _, type := _, pos := _, after := _, guard := _ }) rfl (fun K hK => ?_) AllReadyH.nil)
      · go_simp
        refine hK.out _ _ (hX5.drew.at 1 _ rfl) (fun hHeld => ?_)
        clear hK K
        refine wpAnyH_ready (rs := [8]) (by kernel_rfl) (by simp) ?_
        refine AllReadyH.cons (o := { dst := some 62, op := _, type := _, pos := _, after := _, guard := _ }) rfl (fun K hK => ?_) AllReadyH.nil
        go_simp
        refine hK.out _ _ ((hX5.drew.alloc _).at 1 _ rfl) (fun hHeld => ?_)
        clear hK K
        refine wpAnyH_ready (rs := [9]) (by kernel_rfl) (by simp) ?_
        refine AllReadyH.cons (o := { dst := some 63, op := _, type := _, pos := _, after := _, guard := _ }) rfl (fun K hK => ?_) AllReadyH.nil
        refine box_step base (by rfl) (.tmp 58) (.tmp 62) (by rfl) (.slice A bs.length c) bs bx 1 (fun k => k ≠ pb) (by rfl) (by rfl) (fun k hk => (by simp at hk; omega)) hSd (by simp; omega) (by omega) ?_
        intro v1 w6 hS6 hb7 hg6
        obtain ⟨A6, c6, h6⟩ := Kd.S_slice hS6
        rw [List.length_append] at h6
        subst h6
        have hpo : some pb ≠ (Value.slice A bs.length c).ownBlock := fun he => (Kd.S_R hSd).1 pb he.symm rfl
        have hk6 := (hk5.drew).grown hg6 hpo
        have hX6 := (hX5.drew).grown hg6 (fun he => by have := hSl _ he.symm; omega)
        have hE6 := Kd.R_over' (Kd.R_drew hE5) (Kd.S_typed hSd) (by decide) hg6
        have hz6 := hb7.size
        have g1 := hk6.at 0 _ rfl
        have g2 := hk6.free 0 _ rfl
        refine hK.out _ _ (hX6.at 1 _ rfl) (fun hHeld => ?_)
        clear hK K
        refine wpAnyH_take (i := 10) (oi := { dst := some 64, op := _, type := _, pos := _, after := _, guard := _ }) (v := .pointer (some ⟨pb, 0, none⟩)) rfl (by kernel_rfl) (by kernel_rfl) (by kernel_rfl) (fun _ _ _ h => h) (Or.inl ⟨by rfl, by (intro w hSw; (try dsimp only at hSw); first | (go_simp; done) | (go_simp; with_reducible rfl) | (go_simp; omega) | (go_simp; simp [*]; done))⟩) (by assumption) ?_; try simp only [Act.put, List.setIfInBounds_toArray, List.set_cons_zero, List.set_cons_succ]
        refine wpAnyH_take (i := 11) (oi := { dst := some 65, op := _, type := _, pos := _, after := _, guard := _ }) (v := .pointer (some ⟨pb, 0, none⟩)) rfl (by kernel_rfl) (by kernel_rfl) (by kernel_rfl) (fun _ _ _ h => h) (Or.inl ⟨by rfl, by (intro w hSw; (try dsimp only at hSw); first | (go_simp; done) | (go_simp; with_reducible rfl) | (go_simp; omega) | (go_simp; simp [*]; done))⟩) (by assumption) ?_; try simp only [Act.put, List.setIfInBounds_toArray, List.set_cons_zero, List.set_cons_succ]
        refine wpAnyH_ready (rs := [12]) (by kernel_rfl) (by simp) ?_
        refine AllReadyH.cons (o := { dst := none, op := _, type := _, pos := _, after := _, guard := _ }) rfl (fun K hK => ?_) AllReadyH.nil
        go_simp
        refine hK.out _ _ ((hX6.other (c := pb) (j := 0) hpx _).at 1 _ rfl) (fun hHeld => ?_)
        clear hK K
        refine wpAnyH_done (by kernel_rfl) ?_ _
        have hst : StB (w6.setCell ⟨pb, 0, none⟩ (.slice A6 (bs.length + 1) c6)) base pb (bs ++ [(bx, 1, [])]) es := ⟨_, _, hk6.set 0 (.slice A6 (bs.length + 1) c6) (by simp), hp, Kd.S_far (p := ⟨pb, 0, none⟩) hS6 (fun k hk => hk) _, Kd.R_far (p := ⟨pb, 0, none⟩) hE6 (fun k hk => hk) _⟩
        have hB6 : Below base w (w6.setCell ⟨pb, 0, none⟩ (.slice A6 (bs.length + 1) c6)) := Below.setCell (Below.trans (below_drew hB5) hb7) hp _
        go_wp2_with fail
        go_ret
        exact ⟨(by first | rfl | (simp; done) | (simp [*]; done) | (rw [if_pos (by omega)]; first | rfl | (simp; done)) | (rw [if_neg (by omega)]; first | rfl | (simp; done)) | (simp; omega)), hst, hB6⟩
      · go_simp
        refine hK.out _ _ ((hX5.drew.alloc _).at 1 _ rfl) (fun hHeld => ?_)
        clear hK K
        refine wpAnyH_ready (rs := [4]) (by kernel_rfl) (by simp) ?_
        refine AllReadyH.cons (o := { dst := some 58, op := _, type := _, pos := _, after := _, guard := _ }) rfl (fun K hK => ?_) AllReadyH.nil
        go_simp
        refine hK.out _ _ ((hX5.drew.alloc _).at 1 _ rfl) (fun hHeld => ?_)
        clear hK K
        refine wpAnyH_ready (rs := [9]) (by kernel_rfl) (by simp) ?_
        refine AllReadyH.cons (o := { dst := some 63, op := _, type := _, pos := _, after := _, guard := _ }) rfl (fun K hK => ?_) AllReadyH.nil
        refine box_step base (by rfl) (.tmp 58) (.tmp 62) (by rfl) (.slice A bs.length c) bs bx 1 (fun k => k ≠ pb) (by rfl) (by rfl) (fun k hk => (by simp at hk; omega)) hSd (by simp; omega) (by omega) ?_
        intro v1 w6 hS6 hb7 hg6
        obtain ⟨A6, c6, h6⟩ := Kd.S_slice hS6
        rw [List.length_append] at h6
        subst h6
        have hpo : some pb ≠ (Value.slice A bs.length c).ownBlock := fun he => (Kd.S_R hSd).1 pb he.symm rfl
        have hk6 := (hk5.drew).grown hg6 hpo
        have hX6 := (hX5.drew).grown hg6 (fun he => by have := hSl _ he.symm; omega)
        have hE6 := Kd.R_over' (Kd.R_drew hE5) (Kd.S_typed hSd) (by decide) hg6
        have hz6 := hb7.size
        have g1 := hk6.at 0 _ rfl
        have g2 := hk6.free 0 _ rfl
        refine hK.out _ _ (hX6.at 1 _ rfl) (fun hHeld => ?_)
        clear hK K
        refine wpAnyH_take (i := 10) (oi := { dst := some 64, op := _, type := _, pos := _, after := _, guard := _ }) (v := .pointer (some ⟨pb, 0, none⟩)) rfl (by kernel_rfl) (by kernel_rfl) (by kernel_rfl) (fun _ _ _ h => h) (Or.inl ⟨by rfl, by (intro w hSw; (try dsimp only at hSw); first | (go_simp; done) | (go_simp; with_reducible rfl) | (go_simp; omega) | (go_simp; simp [*]; done))⟩) (by assumption) ?_; try simp only [Act.put, List.setIfInBounds_toArray, List.set_cons_zero, List.set_cons_succ]
        refine wpAnyH_take (i := 11) (oi := { dst := some 65, op := _, type := _, pos := _, after := _, guard := _ }) (v := .pointer (some ⟨pb, 0, none⟩)) rfl (by kernel_rfl) (by kernel_rfl) (by kernel_rfl) (fun _ _ _ h => h) (Or.inl ⟨by rfl, by (intro w hSw; (try dsimp only at hSw); first | (go_simp; done) | (go_simp; with_reducible rfl) | (go_simp; omega) | (go_simp; simp [*]; done))⟩) (by assumption) ?_; try simp only [Act.put, List.setIfInBounds_toArray, List.set_cons_zero, List.set_cons_succ]
        refine wpAnyH_ready (rs := [12]) (by kernel_rfl) (by simp) ?_
        refine AllReadyH.cons (o := { dst := none, op := _, type := _, pos := _, after := _, guard := _ }) rfl (fun K hK => ?_) AllReadyH.nil
        go_simp
        refine hK.out _ _ ((hX6.other (c := pb) (j := 0) hpx _).at 1 _ rfl) (fun hHeld => ?_)
        clear hK K
        refine wpAnyH_done (by kernel_rfl) ?_ _
        have hst : StB (w6.setCell ⟨pb, 0, none⟩ (.slice A6 (bs.length + 1) c6)) base pb (bs ++ [(bx, 1, [])]) es := ⟨_, _, hk6.set 0 (.slice A6 (bs.length + 1) c6) (by simp), hp, Kd.S_far (p := ⟨pb, 0, none⟩) hS6 (fun k hk => hk) _, Kd.R_far (p := ⟨pb, 0, none⟩) hE6 (fun k hk => hk) _⟩
        have hB6 : Below base w (w6.setCell ⟨pb, 0, none⟩ (.slice A6 (bs.length + 1) c6)) := Below.setCell (Below.trans (below_drew hB5) hb7) hp _
        go_wp2_with fail
        go_ret
        exact ⟨(by first | rfl | (simp; done) | (simp [*]; done) | (rw [if_pos (by omega)]; first | rfl | (simp; done)) | (rw [if_neg (by omega)]; first | rfl | (simp; done)) | (simp; omega)), hst, hB6⟩
end Go.Proofs.YtijdghplfhfpaaaDoor.H

/- Boxes: box.apply: Copy; the whole. -/
namespace Go.Proofs.YtijdghplfhfpaaaDoor.H
open Go.RowKit Go.Proofs.YtijdghplfhfpaaaDoorW.PrintWords Go.Proofs.YtijdghplfhfpaaaDoorW.PrintLast Go.Proofs.YtijdghplfhfpaaaDoor.U
set_option linter.unusedVariables false
set_option linter.unusedSimpArgs false
set_option maxHeartbeats 2000000 in
set_option maxRecDepth 100000 in
theorem apply_copy (pb i j : Nat) (bx : ByteArray) (u f : Int) (to_ tx : ByteArray) (base : Nat) (bs : List ABox) (es : List AEntry) (w : World) (h : StB w base pb bs es) (hinv : InvS bs es) (hfi : findG bx bs 0 = (i : Int)) (hi : i < bs.length) (hfk : findU u (mailsAt bs i) 0 = (j : Int)) (hj : j < (mailsAt bs i).length) :
    Calls Tryd.prog 55 #[.pointer (some ⟨pb, 0, none⟩), .agg #[.int .i64 5, .string bx, .int .i64 u, .int .i64 f, .string to_, .string tx]] w fun e w' => e = .returned (.int .i64 (entV bs es ⟨5, bx, u, f, to_, tx⟩).1) ∧ StB w' base pb (entV bs es ⟨5, bx, u, f, to_, tx⟩).2.1 (entV bs es ⟨5, bx, u, f, to_, tx⟩).2.2 ∧ Below base w w' := by
  have hbase := h.bases
  have hpb := h.lt
  obtain ⟨nm, nx, l, hb⟩ : ∃ nm nx l, bs[i] = (nm, nx, l) := ⟨_, _, _, rfl⟩
  rw [mailsAt_of hi hb] at hfk hj
  obtain ⟨m, hm⟩ : ∃ m, l[j] = m := ⟨_, rfl⟩
  have hcv : ∀ z, copyV bs l j z = if z < 0 then (7, bs) else addV bs z.toNat m.flags m.text := fun z => by
    unfold copyV
    rw [List.getElem?_eq_getElem hj, hm]
  have hmv : mailV bs i ⟨5, bx, u, f, to_, tx⟩ = copyV bs l j (findG to_ bs 0) := by
    rw [mailV, if_neg (by show ¬ ((5 : Int) = 2); decide), if_neg (by show ¬ ((5 : Int) = 4); decide), mailsAt_of hi hb]
    simp only [hfk]
    rw [if_neg (by omega), if_neg (by decide), Int.toNat_natCast]
  rw [entV_mail (x := ⟨5, bx, u, f, to_, tx⟩) (by show ¬ ((5 : Int) = 6); decide) (by show ¬ ((5 : Int) = 1); decide) hfi, hmv, hcv]
  rw [findU_P] at hfk
  have i0 : (0 : Int) ≤ (i : Int) := by omega
  have i1 : ¬ (i : Int) < 0 := by omega
  have i2 : (i : Int) < (bs.length : Int) := by omega
  have j0 : (0 : Int) ≤ (j : Int) := by omega
  have j1 : ¬ (j : Int) < 0 := by omega
  have j2 : (j : Int) < (l.length : Int) := by omega
  clear hmv hcv
  by_cases hneg : findG to_ bs 0 < 0
  · rw [if_pos hneg]
    obtain ⟨z, hz⟩ : ∃ z, findG to_ bs 0 = z := ⟨_, rfl⟩
    rw [hz] at hneg
    skip
    obtain ⟨vB, vS, hk, hp, hS, hE⟩ := h
    obtain ⟨A, c, rfl, hc, hC⟩ := Kd.S_reads hS
    obtain ⟨A3, c3, rfl⟩ := Kd.R_slice hE
    have hEl := Kd.R_lt hE
    have hSl := Kd.S_lt hS
    obtain ⟨W1, hW1⟩ : ∃ W1 : World, W1 = w.alloc (.cells #[.int .i64 5, .string bx, .int .i64 u, .int .i64 f, .string to_, .string tx] 40) := ⟨_, rfl⟩
    have hX1 : Blk W1 w.heap.size [.int .i64 5, .string bx, .int .i64 u, .int .i64 f, .string to_, .string tx] := by rw [hW1]; exact Blk.made w _ _
    have hXT : W1.heap[w.heap.size]? = some (.cells #[.int .i64 5, .string bx, .int .i64 u, .int .i64 f, .string to_, .string tx] 40 (0, 0)) := by rw [hW1]; show (w.heap.push _)[w.heap.size]? = _; rw [Array.getElem?_push_size]
    have hb1 : Below w.heap.size w W1 := by rw [hW1]; exact (by repeat (first | exact Below.refl _ _ | apply below_alloc | apply pw_below_drewN | apply below_drew1 | (refine Below.setCell ?_ (by first | (simp; done) | (simp; omega) | omega) _) ))
    have hk1 := hk.below hb1 hpb
    have hz1 : W1.heap.size = w.heap.size + 1 := by rw [hW1]; simp
    have hC1 := Kd.C_below hC hb1
    have HF := fun W hr => find_calls A c bs bx W hr
    have d0 := cell_drew' (hk1.at 0 _ rfl)
    have d1 := cell_drew' (hX1.at 1 _ rfl)
    replace hW1 := Lib.hid hW1
    simp only [hfi] at HF
    clear hfi
    replace HF := Lib.hid HF
    go_enter Tryd.func55, Tryd.ntmps55
    go_wp2_with fail
    rw [← hW1.out]
    go_region_held3 (fun w' => w'.cell? ⟨pb, 0, none⟩ = some (.slice A bs.length c) ∧ w'.cell? ⟨w.heap.size, 1, none⟩ = some (.string bx)) (first | exact ⟨d0, d1⟩ | exact ⟨k0, k1⟩ | go_keep) ((go_at_call 47; refine (HF.out _ (Kd.C_below hC1 (by repeat (first | exact Below.refl _ _ | apply below_alloc | apply pw_below_drewN | apply below_drew1 | (refine Below.setCell ?_ (by first | (simp; done) | (simp; omega) | omega) _) )))).mono ?_; rintro e w5 ⟨rfl, hb5⟩; have k0 := (hb5.cell (lt_of_cell' d0)).trans d0; have k1 := (hb5.cell (lt_of_cell' d1)).trans d1))
    have hb6 : Below W1.heap.size W1 w5 := Below.trans (show Below W1.heap.size W1 W1.drew from (by repeat (first | exact Below.refl _ _ | apply below_alloc | apply pw_below_drewN | apply below_drew1 | (refine Below.setCell ?_ (by first | (simp; done) | (simp; omega) | omega) _) ))) (hb5.mono (by simp))
    have hz5 := hb6.size
    have hX5 := hX1.below hb6 (by omega)
    have hXT5 := (hb6.block w.heap.size (by omega)).trans hXT
    clear hXT
    have hk5 := hk1.below hb6 (by omega)
    have hS5 := Kd.S_below (Kd.S_below hS hb1) hb6
    have hE5 := Kd.R_below (Kd.R_below hE hb1) hb6
    have hB5 := (hb1.mono hbase).trans (hb6.mono (by omega))
    clear hX1 hk1 hC1 hb5 d0 d1 k0 k1 hk hS hE hC
    have m0 := hk5.at 0 _ rfl
    have m1 := hk5.at 1 _ rfl
    have x0 := hX5.at 0 _ rfl
    have x1 := hX5.at 1 _ rfl
    have x2 := hX5.at 2 _ rfl
    have x3 := hX5.at 3 _ rfl
    have x4 := hX5.at 4 _ rfl
    have x5 := hX5.at 5 _ rfl
    obtain ⟨g, cap, hAc, hgb, hgl, cells, hgc⟩ := Kd.S_form hS5 (by omega)
    injection hAc with hAc1 _ hAc2
    subst hAc1
    subst hAc2
    obtain ⟨oki, vM, y0, y1, y2, f1, f2, hR, hoki, hH⟩ := box_lend hS5 hi hb
    obtain ⟨Am, cm, rfl⟩ := Kd.R_slice hR
    have hng : g ≠ pb := fun he => (Kd.S_R hS5).1 g (by simp [Value.ownBlock]) he
    have hng2 : pb ≠ g := Ne.symm hng
    have hgx : g < w.heap.size := hSl g (by simp [Value.ownBlock])
    have ea : (⟨g, 0, none⟩ : Addr).add (i * 3) = ⟨g, i * 3, none⟩ := add_plain _ _
    have hgo : some g ≠ (Value.slice Am l.length cm).ownBlock := fun he => (hoki g (hR.1 g he.symm)).2 rfl
    have hpo : some pb ≠ (Value.slice Am l.length cm).ownBlock := fun he => (hoki pb (hR.1 pb he.symm)).1 rfl
    have HI := indexU_calls u w.heap.size Am cm l (fun m => decide (m.uid = u)) w5 (Kd.R_reads' hR).2.2 rfl x2 (by omega)
    rw [hfk] at HI
    replace HI := Lib.hid HI
    clear hfk
    obtain ⟨gm, cm', hAm, hmb, hml, mc, hmt⟩ := Kd.R_form hR (by omega)
    injection hAm with hAm1 _ hAm2
    subst hAm1
    subst hAm2
    have hst5 : StB w5 base pb bs es := ⟨_, _, hk5, hp, hS5, hE5⟩
    go_wp2_with fail
    refine HI.out.mono ?_
    rintro e w6 ⟨rfl, hb7⟩
    have hz6 := hb7.size
    have hk6 := hk5.below hb7 (by omega)
    have hX6 := hX5.below hb7 (by omega)
    have hR6 := Kd.R_below hR hb7
    have hst6 := hst5.new hb7
    have hB6 := hB5.trans (hb7.mono (by omega))
    have hCw := Kd.C_below (Kd.S_reads' hS5).2.2 hb7
    have d0 := cell_drew' (hk6.at 0 _ rfl)
    have d1 := cell_drew' (hX6.at 4 _ rfl)
    have v0 := hX6.at 0 _ rfl
    have HF2 := fun W hr => find_calls (some ⟨g, 0, none⟩) c bs to_ W hr
    rw [hz] at HF2
    replace HF2 := Lib.hid HF2
    have y2' := (hb7.cell (p := ⟨g, i * 3 + 2, none⟩) hgl).trans y2
    obtain ⟨r0, r1, r2⟩ := row_at hR6 hj hm
    have e2 : (⟨gm, 0, none⟩ : Addr).add (j * 3) = ⟨gm, j * 3, none⟩ := add_plain _ _
    clear hz hR hH hS5 hE5 hst5 hXT5 hmt hgc
    go_wp2_with fail
    go_region_held3 (fun w' => w'.cell? ⟨pb, 0, none⟩ = some (.slice (some ⟨g, 0, none⟩) bs.length c) ∧ w'.cell? ⟨w.heap.size, 4, none⟩ = some (.string to_)) (first | exact ⟨d0, d1⟩ | exact ⟨k0, k1⟩ | go_keep) ((go_at_call 47; refine (HF2.out _ (Kd.C_below hCw (by repeat (first | exact Below.refl _ _ | apply below_alloc | apply pw_below_drewN | apply below_drew1 | (refine Below.setCell ?_ (by first | (simp; done) | (simp; omega) | omega) _) )))).mono ?_; rintro e w7 ⟨rfl, hb8⟩; have k0 := (hb8.cell (lt_of_cell' d0)).trans d0; have k1 := (hb8.cell (lt_of_cell' d1)).trans d1))
    have hb9 : Below w6.heap.size w6 w7 := Below.trans (show Below w6.heap.size w6 w6.drew from (by repeat (first | exact Below.refl _ _ | apply below_alloc | apply pw_below_drewN | apply below_drew1 | (refine Below.setCell ?_ (by first | (simp; done) | (simp; omega) | omega) _) ))) (hb8.mono (by simp))
    have hst7 := hst6.new hb9
    have hB7 := hB6.trans (hb9.mono (by omega))
    have hz7 := hb9.size
    go_wp2_with fail
    go_ret
    exact ⟨(by first | rfl | (simp; done) | (simp [*]; done) | (rw [if_pos (by omega)]; first | rfl | (simp; done)) | (rw [if_neg (by omega)]; first | rfl | (simp; done)) | (simp; omega)), hst7, hB7⟩
  · rw [if_neg hneg]
    obtain ⟨t, hz, ht⟩ : ∃ t : Nat, findG to_ bs 0 = (t : Int) ∧ t < bs.length := by
      rcases findG_lt (nm := to_) bs 0 with h1 | h1
      · omega
      · exact ⟨(findG to_ bs 0).toNat, by omega, by omega⟩
    rw [hz, Int.toNat_natCast]
    have hgd : GoodB (nm, nx, l) := by rw [← hb]; exact hinv.2.2 _ (List.getElem_mem hi)
    have hmm := mails_mem _ _ hgd.2.2.2.2 m (hm ▸ List.getElem_mem hj)
    have HA := Lib.hid (fun W h => add_calls pb t m.flags m.text base bs es W h hinv ht hmm.2.2.2.2)
    have t0 : ¬ (t : Int) < 0 := by omega
    clear hneg hgd hmm
    skip
    obtain ⟨vB, vS, hk, hp, hS, hE⟩ := h
    obtain ⟨A, c, rfl, hc, hC⟩ := Kd.S_reads hS
    obtain ⟨A3, c3, rfl⟩ := Kd.R_slice hE
    have hEl := Kd.R_lt hE
    have hSl := Kd.S_lt hS
    obtain ⟨W1, hW1⟩ : ∃ W1 : World, W1 = w.alloc (.cells #[.int .i64 5, .string bx, .int .i64 u, .int .i64 f, .string to_, .string tx] 40) := ⟨_, rfl⟩
    have hX1 : Blk W1 w.heap.size [.int .i64 5, .string bx, .int .i64 u, .int .i64 f, .string to_, .string tx] := by rw [hW1]; exact Blk.made w _ _
    have hXT : W1.heap[w.heap.size]? = some (.cells #[.int .i64 5, .string bx, .int .i64 u, .int .i64 f, .string to_, .string tx] 40 (0, 0)) := by rw [hW1]; show (w.heap.push _)[w.heap.size]? = _; rw [Array.getElem?_push_size]
    have hb1 : Below w.heap.size w W1 := by rw [hW1]; exact (by repeat (first | exact Below.refl _ _ | apply below_alloc | apply pw_below_drewN | apply below_drew1 | (refine Below.setCell ?_ (by first | (simp; done) | (simp; omega) | omega) _) ))
    have hk1 := hk.below hb1 hpb
    have hz1 : W1.heap.size = w.heap.size + 1 := by rw [hW1]; simp
    have hC1 := Kd.C_below hC hb1
    have HF := fun W hr => find_calls A c bs bx W hr
    have d0 := cell_drew' (hk1.at 0 _ rfl)
    have d1 := cell_drew' (hX1.at 1 _ rfl)
    replace hW1 := Lib.hid hW1
    simp only [hfi] at HF
    clear hfi
    replace HF := Lib.hid HF
    go_enter Tryd.func55, Tryd.ntmps55
    go_wp2_with fail
    rw [← hW1.out]
    go_region_held3 (fun w' => w'.cell? ⟨pb, 0, none⟩ = some (.slice A bs.length c) ∧ w'.cell? ⟨w.heap.size, 1, none⟩ = some (.string bx)) (first | exact ⟨d0, d1⟩ | exact ⟨k0, k1⟩ | go_keep) ((go_at_call 47; refine (HF.out _ (Kd.C_below hC1 (by repeat (first | exact Below.refl _ _ | apply below_alloc | apply pw_below_drewN | apply below_drew1 | (refine Below.setCell ?_ (by first | (simp; done) | (simp; omega) | omega) _) )))).mono ?_; rintro e w5 ⟨rfl, hb5⟩; have k0 := (hb5.cell (lt_of_cell' d0)).trans d0; have k1 := (hb5.cell (lt_of_cell' d1)).trans d1))
    have hb6 : Below W1.heap.size W1 w5 := Below.trans (show Below W1.heap.size W1 W1.drew from (by repeat (first | exact Below.refl _ _ | apply below_alloc | apply pw_below_drewN | apply below_drew1 | (refine Below.setCell ?_ (by first | (simp; done) | (simp; omega) | omega) _) ))) (hb5.mono (by simp))
    have hz5 := hb6.size
    have hX5 := hX1.below hb6 (by omega)
    have hXT5 := (hb6.block w.heap.size (by omega)).trans hXT
    clear hXT
    have hk5 := hk1.below hb6 (by omega)
    have hS5 := Kd.S_below (Kd.S_below hS hb1) hb6
    have hE5 := Kd.R_below (Kd.R_below hE hb1) hb6
    have hB5 := (hb1.mono hbase).trans (hb6.mono (by omega))
    clear hX1 hk1 hC1 hb5 d0 d1 k0 k1 hk hS hE hC
    have m0 := hk5.at 0 _ rfl
    have m1 := hk5.at 1 _ rfl
    have x0 := hX5.at 0 _ rfl
    have x1 := hX5.at 1 _ rfl
    have x2 := hX5.at 2 _ rfl
    have x3 := hX5.at 3 _ rfl
    have x4 := hX5.at 4 _ rfl
    have x5 := hX5.at 5 _ rfl
    obtain ⟨g, cap, hAc, hgb, hgl, cells, hgc⟩ := Kd.S_form hS5 (by omega)
    injection hAc with hAc1 _ hAc2
    subst hAc1
    subst hAc2
    obtain ⟨oki, vM, y0, y1, y2, f1, f2, hR, hoki, hH⟩ := box_lend hS5 hi hb
    obtain ⟨Am, cm, rfl⟩ := Kd.R_slice hR
    have hng : g ≠ pb := fun he => (Kd.S_R hS5).1 g (by simp [Value.ownBlock]) he
    have hng2 : pb ≠ g := Ne.symm hng
    have hgx : g < w.heap.size := hSl g (by simp [Value.ownBlock])
    have ea : (⟨g, 0, none⟩ : Addr).add (i * 3) = ⟨g, i * 3, none⟩ := add_plain _ _
    have hgo : some g ≠ (Value.slice Am l.length cm).ownBlock := fun he => (hoki g (hR.1 g he.symm)).2 rfl
    have hpo : some pb ≠ (Value.slice Am l.length cm).ownBlock := fun he => (hoki pb (hR.1 pb he.symm)).1 rfl
    have HI := indexU_calls u w.heap.size Am cm l (fun m => decide (m.uid = u)) w5 (Kd.R_reads' hR).2.2 rfl x2 (by omega)
    rw [hfk] at HI
    replace HI := Lib.hid HI
    clear hfk
    obtain ⟨gm, cm', hAm, hmb, hml, mc, hmt⟩ := Kd.R_form hR (by omega)
    injection hAm with hAm1 _ hAm2
    subst hAm1
    subst hAm2
    have hst5 : StB w5 base pb bs es := ⟨_, _, hk5, hp, hS5, hE5⟩
    go_wp2_with fail
    refine HI.out.mono ?_
    rintro e w6 ⟨rfl, hb7⟩
    have hz6 := hb7.size
    have hk6 := hk5.below hb7 (by omega)
    have hX6 := hX5.below hb7 (by omega)
    have hR6 := Kd.R_below hR hb7
    have hst6 := hst5.new hb7
    have hB6 := hB5.trans (hb7.mono (by omega))
    have hCw := Kd.C_below (Kd.S_reads' hS5).2.2 hb7
    have d0 := cell_drew' (hk6.at 0 _ rfl)
    have d1 := cell_drew' (hX6.at 4 _ rfl)
    have v0 := hX6.at 0 _ rfl
    have HF2 := fun W hr => find_calls (some ⟨g, 0, none⟩) c bs to_ W hr
    rw [hz] at HF2
    replace HF2 := Lib.hid HF2
    have y2' := (hb7.cell (p := ⟨g, i * 3 + 2, none⟩) hgl).trans y2
    obtain ⟨r0, r1, r2⟩ := row_at hR6 hj hm
    have e2 : (⟨gm, 0, none⟩ : Addr).add (j * 3) = ⟨gm, j * 3, none⟩ := add_plain _ _
    clear hz hR hH hS5 hE5 hst5 hXT5 hmt hgc
    go_wp2_with fail
    go_region_held3 (fun w' => w'.cell? ⟨pb, 0, none⟩ = some (.slice (some ⟨g, 0, none⟩) bs.length c) ∧ w'.cell? ⟨w.heap.size, 4, none⟩ = some (.string to_)) (first | exact ⟨d0, d1⟩ | exact ⟨k0, k1⟩ | go_keep) ((go_at_call 47; refine (HF2.out _ (Kd.C_below hCw (by repeat (first | exact Below.refl _ _ | apply below_alloc | apply pw_below_drewN | apply below_drew1 | (refine Below.setCell ?_ (by first | (simp; done) | (simp; omega) | omega) _) )))).mono ?_; rintro e w7 ⟨rfl, hb8⟩; have k0 := (hb8.cell (lt_of_cell' d0)).trans d0; have k1 := (hb8.cell (lt_of_cell' d1)).trans d1))
    have hb9 : Below w6.heap.size w6 w7 := Below.trans (show Below w6.heap.size w6 w6.drew from (by repeat (first | exact Below.refl _ _ | apply below_alloc | apply pw_below_drewN | apply below_drew1 | (refine Below.setCell ?_ (by first | (simp; done) | (simp; omega) | omega) _) ))) (hb8.mono (by simp))
    have hst7 := hst6.new hb9
    have hB7 := hB6.trans (hb9.mono (by omega))
    have hz7 := hb9.size
    have y2'' := (hb9.cell (p := ⟨g, i * 3 + 2, none⟩) (by show g < _; omega)).trans y2'
    have r0' := (hb9.cell (p := ⟨gm, j * 3, none⟩) (by show gm < _; omega)).trans r0
    have r1' := (hb9.cell (p := ⟨gm, j * 3 + 1, none⟩) (by show gm < _; omega)).trans r1
    have r2' := (hb9.cell (p := ⟨gm, j * 3 + 2, none⟩) (by show gm < _; omega)).trans r2
    have hst8 := hst7.new (show Below w7.heap.size w7 (w7.alloc (.cells #[.int .i64 m.uid, .int .i64 m.flags, .string m.text] 84)) from (by repeat (first | exact Below.refl _ _ | apply below_alloc | apply pw_below_drewN | apply below_drew1 | (refine Below.setCell ?_ (by first | (simp; done) | (simp; omega) | omega) _) )))
    have hB8 : Below base w (w7.alloc (.cells #[.int .i64 m.uid, .int .i64 m.flags, .string m.text] 84)) := below_alloc' hB7 (by omega) _
    go_wp2_with fail
    refine (HA.out _ hst8).mono ?_
    rintro e w9 ⟨rfl, hst9, hb10⟩
    go_wp2_with fail
    go_ret
    exact ⟨(by first | rfl | (simp; done) | (simp [*]; done) | (rw [if_pos (by omega)]; first | rfl | (simp; done)) | (rw [if_neg (by omega)]; first | rfl | (simp; done)) | (simp; omega)), hst9, hB8.trans hb10⟩
theorem apply_calls (pb : Nat) (x : AEntry) (base : Nat) (bs : List ABox) (es : List AEntry) (w : World) (h : StB w base pb bs es) (hinv : InvS bs es) (hx : entryFault x = 0) :
    Calls Tryd.prog 55 #[.pointer (some ⟨pb, 0, none⟩), .agg #[.int .i64 x.kind, .string x.box, .int .i64 x.uid, .int .i64 x.flags, .string x.to_, .string x.text]] w fun e w' => e = .returned (.int .i64 (entV bs es x).1) ∧ StB w' base pb (entV bs es x).2.1 (entV bs es x).2.2 ∧ Below base w w' := by
  obtain ⟨a1, a2, a3, a4, a5, _⟩ := ef_ok hx
  obtain ⟨k, bx, u, f, to_, tx⟩ := x
  simp only at a1 a2 a3 a4 a5 ⊢
  clear hx
  rcases (by omega : k = 6 ∨ k = 1 ∨ k = 2 ∨ k = 3 ∨ k = 4 ∨ k = 5) with rfl | rfl | hk
  · exact apply_spool pb bx u f to_ tx base bs es w h hinv
  · exact apply_create pb bx u f to_ tx base bs es w h hinv
  · by_cases hf : findG bx bs 0 < 0
    · exact apply_none pb k bx u f to_ tx base bs es w h (by omega) (by omega) hf
    · obtain ⟨i, hfi, hi⟩ : ∃ i : Nat, findG bx bs 0 = (i : Int) ∧ i < bs.length := by
        rcases findG_lt (nm := bx) bs 0 with h1 | h1
        · omega
        · exact ⟨(findG bx bs 0).toNat, by omega, by omega⟩
      by_cases hk2 : k = 2
      · subst hk2; exact apply_append pb i bx u f to_ tx base bs es w h hinv a5 hfi hi
      · by_cases hk4 : k = 4
        · subst hk4; exact apply_expunge pb i bx u f to_ tx base bs es w h hinv hfi hi
        · by_cases hu : findU u (mailsAt bs i) 0 < 0
          · exact apply_miss pb i k bx u f to_ tx base bs es w h (by omega) hfi hi hu
          · obtain ⟨j, hfj, hj⟩ : ∃ j : Nat, findU u (mailsAt bs i) 0 = (j : Int) ∧ j < (mailsAt bs i).length := by
              rcases findU_lt (u := u) (mailsAt bs i) 0 with h1 | h1
              · omega
              · exact ⟨(findU u (mailsAt bs i) 0).toNat, by omega, by omega⟩
            rcases (by omega : k = 3 ∨ k = 5) with rfl | rfl
            · exact apply_flag pb i j bx u f to_ tx base bs es w h hfi hi hfj hj
            · exact apply_copy pb i j bx u f to_ tx base bs es w h hinv hfi hi hfj hj
end Go.Proofs.YtijdghplfhfpaaaDoor.H

/- Boxes: box.own. -/
namespace Go.Proofs.YtijdghplfhfpaaaDoor.H
open Go.RowKit Go.Proofs.YtijdghplfhfpaaaDoorW.PrintWords Go.Proofs.YtijdghplfhfpaaaDoorW.PrintLast Go.Proofs.YtijdghplfhfpaaaDoor.U
set_option linter.unusedVariables false
set_option linter.unusedSimpArgs false
set_option maxHeartbeats 1000000 in
set_option maxRecDepth 100000 in
theorem cloneE_calls (A : Option Addr) (c : Nat) (l : List AEntry) (w : World) (hr : Kd.C kAEntry w A l.length l) (hl : l.length * 72 ≤ 140737488355328) :
    Calls Tryd.prog 89 #[.slice A l.length c] w fun e w' => ∃ v : Value, e = .returned v ∧ Kd.R kAEntry 40 w' w.heap.size (fun _ => True) v l ∧ Below w.heap.size w w' := by
  have hnil := fun (w : World) (a : Option Addr) (n c n' c' : Nat) => Lib.run_eql_slice_nil (P := Tryd.prog) w _ _ a n c n' c' rowAEntry.ht
  cases A with
  | none =>
    obtain ⟨rfl, _⟩ := C_nil _ w rfl hr
    go_enter Tryd.func89, Tryd.ntmps89
    go_wp2
    go_ret
    exact ⟨_, rfl, Kd.R_nil _ _ _ _ _, Below.refl _ _⟩
  | some ad =>
    go_enter Tryd.func89, Tryd.ntmps89
    go_wp2_with (at_builtin; refine rows_list rowAEntry w.heap.size rfl _ _ rfl (.slice (some ⟨w.heap.size, 0, none⟩) 0 0) [] l (some ad) c rfl rfl (R_lit0 _ _ _) (Kd.C_below hr (by repeat (first | exact Below.refl _ _ | apply below_alloc | apply pw_below_drewN | apply below_drew1))) (by simp) (by simpa using hl) ?_; intro v1 w1 hR hb1 hg1)
    go_ret
    exact ⟨_, rfl, hR, ((Below.refl _ _).alloc (Nat.le_refl _) _).trans hb1⟩
set_option maxHeartbeats 1000000 in
set_option maxRecDepth 100000 in
theorem cloneM_calls (A : Option Addr) (c : Nat) (l : List AMail) (w : World) (hr : Kd.C kAMail w A l.length l) (hl : l.length * 32 ≤ 140737488355328) :
    Calls Tryd.prog 90 #[.slice A l.length c] w fun e w' => ∃ v : Value, e = .returned v ∧ Kd.R kAMail 84 w' w.heap.size (fun _ => True) v l ∧ Below w.heap.size w w' := by
  have hnil := fun (w : World) (a : Option Addr) (n c n' c' : Nat) => Lib.run_eql_slice_nil (P := Tryd.prog) w _ _ a n c n' c' rowAMail.ht
  cases A with
  | none =>
    obtain ⟨rfl, _⟩ := C_nil _ w rfl hr
    go_enter Tryd.func90, Tryd.ntmps90
    go_wp2
    go_ret
    exact ⟨_, rfl, Kd.R_nil _ _ _ _ _, Below.refl _ _⟩
  | some ad =>
    go_enter Tryd.func90, Tryd.ntmps90
    go_wp2_with (at_builtin; refine rows_list rowAMail w.heap.size rfl _ _ rfl (.slice (some ⟨w.heap.size, 0, none⟩) 0 0) [] l (some ad) c rfl rfl (R_lit0 _ _ _) (Kd.C_below hr (by repeat (first | exact Below.refl _ _ | apply below_alloc | apply pw_below_drewN | apply below_drew1))) (by simp) (by simpa using hl) ?_; intro v1 w1 hR hb1 hg1)
    go_ret
    exact ⟨_, rfl, hR, ((Below.refl _ _).alloc (Nat.le_refl _) _).trans hb1⟩
set_option maxHeartbeats 2000000 in
set_option maxRecDepth 100000 in
theorem own_calls (A : Option Addr) (c : Nat) (bs : List ABox) (A2 : Option Addr) (c2 : Nat) (es : List AEntry) (w : World) (hr : kBox.C w A bs.length bs) (hr2 : Kd.C kAEntry w A2 es.length es) (hl1 : bs.length ≤ 1048576) (hl2 : es.length ≤ 1048576) (hl3 : ∀ b ∈ bs, b.2.2.length ≤ 1048576) :
    Calls Tryd.prog 54 #[.agg #[.slice A bs.length c, .slice A2 es.length c2]] w fun e w' => ∃ vB vS : Value, e = .returned (.agg #[vB, vS]) ∧ Kd.S kBox 77 w' w.heap.size (fun _ => True) vB bs ∧ Kd.R kAEntry 40 w' w.heap.size (fun _ => True) vS es ∧ Below w.heap.size w w' := by
  have h63 := hr.2.1
  obtain ⟨W2, hW2⟩ : ∃ W2 : World, W2 = (w.alloc (.cells #[.slice A bs.length c, .slice A2 es.length c2] 25)).alloc (.cells #[.slice none 0 0, .slice none 0 0] 25) := ⟨_, rfl⟩
  have hP0 : Blk W2 w.heap.size [.slice A bs.length c, .slice A2 es.length c2] := by rw [hW2]; exact (Blk.made w _ _).alloc _
  have hQ0 : Blk W2 (w.heap.size + 1) [.slice none 0 0, .slice none 0 0] := by rw [hW2]; exact Blk.made_at _ _ _ (by simp)
  have hB0 : Below w.heap.size w W2 := by rw [hW2]; exact (by repeat (first | exact Below.refl _ _ | apply below_alloc | apply pw_below_drewN | apply below_drew1 | (refine Below.setCell ?_ (by first | (simp; done) | (simp; omega) | omega) _) ))
  have hz0 : W2.heap.size = w.heap.size + 2 := by rw [hW2]; simp
  replace hW2 := Lib.hid hW2
  have HE := Lib.hid (cloneE_calls A2 c2 es W2 (Kd.C_below hr2 hB0) (by omega))
  go_enter Tryd.func54, Tryd.ntmps54
  go_wp2_with fail
  rw [← hW2.out]
  refine HE.out.mono ?_
  rintro e w1 ⟨vS, rfl, hE1, hb1⟩
  obtain ⟨A3, c3, rfl⟩ := Kd.R_slice hE1
  have hz1 := hb1.size
  obtain ⟨W3, hW3⟩ : ∃ W3 : World, W3 = w1.alloc (.cells #[.slice none 0 0, .slice A3 es.length c3] 25) := ⟨_, rfl⟩
  have hP : Blk W3 w.heap.size [.slice A bs.length c, .slice A2 es.length c2] := by rw [hW3]; exact (hP0.below hb1 (by omega)).alloc _
  have hQ : Blk W3 (w.heap.size + 1) [.slice none 0 0, .slice none 0 0] := by rw [hW3]; exact (hQ0.below hb1 (by omega)).alloc _
  have hO : Blk W3 w1.heap.size [.slice none 0 0, .slice A3 es.length c3] := by rw [hW3]; exact Blk.made _ _ _
  have hB3 : Below w.heap.size w W3 := by rw [hW3]; exact below_alloc' (hB0.trans (hb1.mono (by omega))) (by omega) _
  have hE3 : Kd.R kAEntry 40 W3 W2.heap.size (fun k => k ≠ w1.heap.size) (.slice A3 es.length c3) es := by rw [hW3]; exact Kd.R_mono (Kd.R_below (Kd.R_bound hE1) (by repeat (first | exact Below.refl _ _ | apply below_alloc | apply pw_below_drewN | apply below_drew1 | (refine Below.setCell ?_ (by first | (simp; done) | (simp; omega) | omega) _) ))) (fun k hk => by have := hk.2.2.1; omega)
  have hz3 : W3.heap.size = w1.heap.size + 1 := by rw [hW3]; simp
  replace hW3 := Lib.hid hW3
  have p0 := (hP0.below hb1 (by omega)).at 0 _ rfl
  have p00 : w.heap.size < w1.heap.size := by omega
  clear hP0 hQ0 hB0 hE1 hb1
  go_wp2_with fail
  rw [← hW3.out]
  go_loopw [13] (fun i wr => ∃ (k : Nat) (vB : Value), k ≤ bs.length ∧ i = .int .i64 k ∧ Kd.S kBox 77 wr (w1.heap.size + 1) (fun _ => True) vB (bs.take k) ∧ Blk wr w.heap.size [.slice A bs.length c, .slice A2 es.length c2] ∧ Blk wr (w.heap.size + 1) [.slice none 0 0, .slice none 0 0] ∧ Blk wr w1.heap.size [vB, .slice A3 es.length c3] ∧ Kd.R kAEntry 40 wr W2.heap.size (fun k => k ≠ w1.heap.size ∧ k < w1.heap.size + 1) (.slice A3 es.length c3) es ∧ w1.heap.size + 1 ≤ wr.heap.size ∧ Below w.heap.size w wr) (fun i _ => bs.length - (intOf i).toNat)
  case atStart => exact ⟨0, _, Nat.zero_le _, rfl, Kd.S_nil _ _ _ _ _, hP, hQ, hO, Kd.R_mono (Kd.R_bound hE3) (fun k hk => ⟨hk.1, by have := hk.2.2.1; omega⟩), by omega, hB3⟩
  case round =>
    clear hP hQ hO hB3 hE3 p0
    obtain ⟨k, vB, hk, rfl, hS, hP, hQ, hO, hE, hz, hB⟩ := hrel
    by_cases hlt : k < bs.length
    · obtain ⟨ad, Ae, ce, e1, x0, x1, x2, hC⟩ := box_at (Kd.C_below hr hB) k hlt
      subst e1
      rw [add1] at x1
      rw [add2] at x2
      have i0 : (0 : Int) ≤ (k : Int) := by omega
      have i1 : (k : Int) < (bs.length : Int) := by omega
      have hl4 := hl3 _ (List.getElem_mem hlt)
      obtain ⟨nm, nx, l, hbk⟩ : ∃ nm nx l, bs[k] = (nm, nx, l) := ⟨_, _, _, rfl⟩
      have htk := Lib.hid (boxes_take hlt hbk)
      rw [hbk] at x0 x1 x2 hC hl4
      simp only at x0 x1 x2 hC hl4
      clear hbk
      obtain ⟨Ab, cb, rfl⟩ := Kd.S_slice hS
      have hlk : (bs.take k).length = k := by rw [List.length_take]; omega
      rw [hlk] at hO
      rw [hlk] at hS
      replace hlk := Lib.hid hlk
      have hX := Blk.made wr #[.string nm, .int .i64 nx, .slice Ae l.length ce] 77
      have hB1 : Below wr.heap.size wr (wr.alloc (.cells #[.string nm, .int .i64 nx, .slice Ae l.length ce] 77)) := (by repeat (first | exact Below.refl _ _ | apply below_alloc | apply pw_below_drewN | apply below_drew1 | (refine Below.setCell ?_ (by first | (simp; done) | (simp; omega) | omega) _) ))
      have HM := Lib.hid (cloneM_calls Ae ce l _ (Kd.C_below hC hB1) (by omega))
      go_wp2_with fail
      refine HM.out.mono ?_
      rintro e w5 ⟨vM, rfl, hR1, hb5⟩
      obtain ⟨A1, c1, rfl⟩ := Kd.R_slice hR1
      have hz5 := hb5.size
      simp at hz5
      have hX1 := hX.below hb5 (by first | (simp; done) | (simp; omega) | omega)
      have hO1 := (hO.alloc (.cells #[.string nm, .int .i64 nx, .slice Ae l.length ce] 77)).below hb5 (by first | (simp; done) | (simp; omega) | omega)
      have nn : ¬ w1.heap.size = wr.heap.size := by omega
      have nn2 : ¬ wr.heap.size = w1.heap.size := by omega
      have o0 := hO1.at 0 _ rfl
      have o1 := hO1.free 0 _ rfl
      have y0 := hX1.at 0 _ rfl
      have y1 := hX1.at 1 _ rfl
      have y2 := hX1.at 2 _ rfl
      have f2 := hX1.free 2 _ rfl
      have hB2 : Below wr.heap.size wr w5 := hB1.trans (hb5.mono (by first | (simp; done) | (simp; omega) | omega))
      have hM2 : Kd.R kAMail 84 (w5.setCell ⟨wr.heap.size, 2, none⟩ (.slice A1 l.length c1)) (wr.heap.size + 1) (fun _ => True) (.slice A1 l.length c1) l := R_elder (Kd.R_lower hR1 (by simp)) (show wr.heap.size < wr.heap.size + 1 by omega) _
      have hS2 : Kd.S kBox 77 (w5.setCell ⟨wr.heap.size, 2, none⟩ (.slice A1 l.length c1)) (w1.heap.size + 1) (fun k => k < wr.heap.size + 1) (.slice Ab k cb) (bs.take k) :=
        Kd.S_mono (Kd.S_far (p := ⟨wr.heap.size, 2, none⟩) (S_since hS hB2) (fun k hk => by show k ≠ wr.heap.size; omega) _) (fun k hk => by show k < wr.heap.size + 1; omega)
      go_wp2_with (at_builtin; refine snocS_list (w1.heap.size + 1) (wr.heap.size + 1) rfl _ _ rfl (.slice Ab k cb) (bs.take k) nm nx l (.slice A1 l.length c1) (by first | rfl | (simp [Act.eval]; done)) (by first | rfl | (simp [Act.eval]; done)) hM2 (by omega) hS2 (by simp; omega) (by rw [hlk.out]; omega) ?_)
      intro v9 w9 hS9 hb9
      have hz9 := hb9.size
      simp at hz9
      have hO9 := (hO1.other (c := wr.heap.size) (j := 2) nn2 (.slice A1 l.length c1)).below hb9 (by omega)
      have hP9 := ((hP.below hB2 (by omega)).other (c := wr.heap.size) (j := 2) (by omega) (.slice A1 l.length c1)).below hb9 (by omega)
      have hQ9 := ((hQ.below hB2 (by omega)).other (c := wr.heap.size) (j := 2) (by omega) (.slice A1 l.length c1)).below hb9 (by omega)
      have hE9 := Kd.R_step (Kd.R_far (p := ⟨wr.heap.size, 2, none⟩) (Kd.R_below hE hB2) (fun k hk => by have := hk.2; show k ≠ wr.heap.size; omega) (.slice A1 l.length c1)) (fun k hk _ => hb9.block k hk.2)
      have g0 := hO9.at 0 _ rfl
      have g1 := hO9.free 0 _ rfl
      have hB9 : Below w.heap.size w w9 := by
        refine Below.trans (Below.setCell (hB.trans (hB2.mono (by omega))) (show w.heap.size ≤ wr.heap.size by omega) _) (hb9.mono (by omega))
      clear o0 o1 y0 y1 y2 f2 hO1 hX1 hS2 hM2 hb9 hb5 hR1 hE
      obtain ⟨A9, c9, h9⟩ := Kd.S_slice hS9
      rw [List.length_append, hlk.out] at h9
      subst h9
      go_wp2_with fail
      go_roundw
      case rel => exact ⟨k + 1, _, hlt, by go_num, by rw [htk.out]; exact S_elder hS9 (by show w1.heap.size < w1.heap.size + 1; omega) _, hP9.other (by omega) _, hQ9.other (by omega) _, hO9.set 0 _ (by simp), Kd.R_far (p := ⟨w1.heap.size, 0, none⟩) hE9 (fun k hk => hk.1) _, by simp; omega, Below.setCell hB9 (by show w.heap.size ≤ w1.heap.size; omega) _⟩
      case measure => simp [intOf]; omega
    · obtain rfl : k = bs.length := by omega
      rw [List.take_length] at hS
      have o0 := hO.at 0 _ rfl
      have o1 := hO.at 1 _ rfl
      have q0 := hQ.at 0 _ rfl
      have q1 := hQ.at 1 _ rfl
      have q2 := hQ.free 0 _ rfl
      have q3 := hQ.free 1 _ rfl
      have i1 : ¬ (bs.length : Int) < (bs.length : Int) := by omega
      obtain ⟨Ab, cb, rfl⟩ := Kd.S_slice hS
      go_wp2_with fail
      refine bodyPost_ret (v := .agg #[.slice Ab bs.length cb, .slice A3 es.length c3]) (by simp [results, Tryd.results54, go_sem, *]) rfl ?_
      refine ⟨_, _, rfl, ?_, ?_, (by repeat (first | exact Below.refl _ _ | apply below_alloc | apply pw_below_drewN | apply below_drew1 | (refine Below.setCell ?_ (by first | (simp; done) | (simp; omega) | omega) _) | exact hB))⟩
      · exact Kd.S_lower (S_elder (S_elder hS (show w.heap.size + 1 < w1.heap.size + 1 by omega) _) (show w.heap.size + 1 < w1.heap.size + 1 by omega) _) (by omega)
      · exact Kd.R_lower (R_elder (R_elder (Kd.R_mono hE (fun _ _ => trivial)) (show w.heap.size + 1 < W2.heap.size by omega) _) (show w.heap.size + 1 < W2.heap.size by omega) _) (by omega)
end Go.Proofs.YtijdghplfhfpaaaDoor.H

/- Boxes: box.Check: the walk. -/
namespace Go.Proofs.YtijdghplfhfpaaaDoor.H
open Go.RowKit Go.Proofs.YtijdghplfhfpaaaDoorW.PrintWords Go.Proofs.YtijdghplfhfpaaaDoorW.PrintLast Go.Proofs.YtijdghplfhfpaaaDoor.U
set_option linter.unusedVariables false
set_option linter.unusedSimpArgs false
set_option maxHeartbeats 2000000 in
set_option maxRecDepth 100000 in
theorem boxCheck_calls (A : Option Addr) (c : Nat) (bs : List ABox) (A2 : Option Addr) (c2 : Nat) (es : List AEntry) (m : Int) (w : World) (hr : kBox.C w A bs.length bs) (hc : bs.length ≤ c) (hr2 : Kd.C kAEntry w A2 es.length es) (hs : okSt bs es)
    (hm : w.cell? ⟨6, 0, none⟩ = some (.int .i64 m)) (hg : 6 < w.heap.size) :
    Calls Tryd.prog 13 #[.agg #[.slice A bs.length c, .slice A2 es.length c2]] w fun e w' => e = .returned (.int .i64 (stFault bs es)) ∧ Below w.heap.size w w' := by
  have h63 := hr.2.1
  have h64 := hr2.2.1
  by_cases hlen : 5 < bs.length ∨ 20 < es.length
  · rw [stFault, if_pos hlen]
    by_cases h1 : 5 < bs.length
    · have h1' : (5 : Int) < (bs.length : Int) := by omega
      go_enter Tryd.func13, Tryd.ntmps13
      go_wp2_with fail
      go_ret
      exact ⟨(by first | rfl | (simp; done) | (simp [*]; done) | (rw [if_pos (by omega)]; first | rfl | (simp; done)) | (rw [if_neg (by omega)]; first | rfl | (simp; done)) | (simp; omega)), (by repeat (first | exact Below.refl _ _ | apply below_alloc | apply pw_below_drewN | apply below_drew1 | (refine Below.setCell ?_ (by first | (simp; done) | (simp; omega) | omega) _) ))⟩
    · have h1' : ¬ (5 : Int) < (bs.length : Int) := by omega
      have h2' : (20 : Int) < (es.length : Int) := by omega
      go_enter Tryd.func13, Tryd.ntmps13
      go_wp2_with fail
      go_ret
      exact ⟨(by first | rfl | (simp; done) | (simp [*]; done) | (rw [if_pos (by omega)]; first | rfl | (simp; done)) | (rw [if_neg (by omega)]; first | rfl | (simp; done)) | (simp; omega)), (by repeat (first | exact Below.refl _ _ | apply below_alloc | apply pw_below_drewN | apply below_drew1 | (refine Below.setCell ?_ (by first | (simp; done) | (simp; omega) | omega) _) ))⟩
  · rw [stFault, if_neg hlen]
    have h1' : ¬ (5 : Int) < (bs.length : Int) := by omega
    have h2' : ¬ (20 : Int) < (es.length : Int) := by omega
    have hl5 : bs.length ≤ 5 := by omega
    generalize hR : stTail bs es = R
    have hk0 := Blk.made w #[.slice A bs.length c, .slice A2 es.length c2] 25
    have hB0 : Below w.heap.size w (w.alloc (.cells #[.slice A bs.length c, .slice A2 es.length c2] 25)) := (by repeat (first | exact Below.refl _ _ | apply below_alloc | apply pw_below_drewN | apply below_drew1 | (refine Below.setCell ?_ (by first | (simp; done) | (simp; omega) | omega) _) ))
    clear hlen
    go_enter Tryd.func13, Tryd.ntmps13
    go_wp2_with fail
    go_loopw [3, 20] (fun _ i wr => ∃ k : Nat, k ≤ bs.length ∧ i = .int .i64 k ∧ (boxesFrom bs k = true → boxesFrom bs 0 = true) ∧ (boxesFrom bs k = false → R = 11) ∧ Blk wr w.heap.size [.slice A bs.length c, .slice A2 es.length c2] ∧ Below w.heap.size w wr) (fun _ i _ => bs.length - (intOf i).toNat)
    case atStart => exact ⟨0, Nat.zero_le _, rfl, id, (fun h => by rw [← hR, stTail, if_neg (by rw [h]; decide)]), hk0, hB0⟩
    case round =>
      clear hk0 hB0
      obtain ⟨k, hk, rfl, hyes, hno, hblk, hB⟩ := hrel
      have hz := hblk.lt
      have b0 := hblk.at 0 _ rfl
      by_cases hlt : k < bs.length
      · obtain ⟨ad, Ae, ce, e1, x0, x1, x2, hC⟩ := box_at (Kd.C_below hr hB) k hlt
        subst e1
        rw [add1] at x1
        rw [add2] at x2
        have i0 : (0 : Int) ≤ (k : Int) := by omega
        have i1 : (k : Int) < (bs.length : Int) := by omega
        have hsz := hs.1 _ (List.getElem_mem hlt)
        have hbd := fun h => boxes_bad hlt h
        have hgd := fun h h2 => boxes_good hlt h h2
        obtain ⟨nm, nx, l, hbk⟩ : ∃ nm nx l, bs[k] = (nm, nx, l) := ⟨_, _, _, rfl⟩
        rw [hbk] at x0 x1 x2 hC hsz hbd hgd
        simp only at x0 x1 x2 hC hsz hbd hgd
        clear hbk
        have HBx := fun w hr' => box_calls nm nx Ae ce l w hr' hsz
        have HF := fun w hr' => find_calls (some ad) c (bs.take k) nm w hr'
        have htk : (bs.take k).length = k := by rw [List.length_take]; omega
        rw [htk] at HF
        generalize findG nm (bs.take k) 0 = fi at *
        generalize boxOk (nm, nx, l) = ok at *
        replace HF := Lib.hid HF
        have i2 : (k : Int) ≤ (c : Int) := by omega
        have hX := Blk.made wr #[.string nm, .int .i64 nx, .slice Ae l.length ce] 77
        have hBx : Below w.heap.size w (wr.alloc (.cells #[.string nm, .int .i64 nx, .slice Ae l.length ce] 77)) := (by repeat (first | exact Below.refl _ _ | apply below_alloc | apply pw_below_drewN | apply below_drew1 | (refine Below.setCell ?_ (by first | (simp; done) | (simp; omega) | omega) _) | exact hB))
        have hCx : Kd.C kAMail (wr.alloc (.cells #[.string nm, .int .i64 nx, .slice Ae l.length ce] 77)) Ae l.length l := Kd.C_below hC (by repeat (first | exact Below.refl _ _ | apply below_alloc | apply pw_below_drewN | apply below_drew1 | (refine Below.setCell ?_ (by first | (simp; done) | (simp; omega) | omega) _) ))
        obtain ⟨Wx, hWx⟩ : ∃ Wx : World, Wx = wr.alloc (.cells #[.string nm, .int .i64 nx, .slice Ae l.length ce] 77) := ⟨_, rfl⟩
        rw [← hWx] at hX hBx hCx
        have hkx : Blk Wx w.heap.size [.slice (some ad) bs.length c, .slice A2 es.length c2] := by rw [hWx]; exact hblk.alloc _
        have hXd := hX.drew
        have hkd := hkx.drew
        have hBd : Below w.heap.size w Wx.drew := (by repeat (first | exact Below.refl _ _ | apply below_alloc | apply pw_below_drewN | apply below_drew1 | (refine Below.setCell ?_ (by first | (simp; done) | (simp; omega) | omega) _) | exact hBx))
        have hCd := Kd.C_below hCx (show Below Wx.heap.size Wx Wx.drew from (by repeat (first | exact Below.refl _ _ | apply below_alloc | apply pw_below_drewN | apply below_drew1 | (refine Below.setCell ?_ (by first | (simp; done) | (simp; omega) | omega) _) )))
        have hzd := hXd.lt
        have hzk := hkd.lt
        replace hWx := Lib.hid hWx
        go_wp2_with fail
        rw [← hWx.out]
        refine wp_region_held_drew (S := fun w' => (w'.cell? ⟨wr.heap.size, 0, none⟩ = some (.string nm) ∧ w'.cell? ⟨wr.heap.size, 1, none⟩ = some (.int .i64 nx) ∧ w'.cell? ⟨wr.heap.size, 2, none⟩ = some (.slice Ae l.length ce)) ∧ w'.cell? ⟨w.heap.size, 0, none⟩ = some (.slice (some ad) bs.length c)) (by kernel_rfl) ?_ (fun hHeld => ?_)
        · exact ⟨⟨hXd.at 0 _ rfl, hXd.at 1 _ rfl, hXd.at 2 _ rfl⟩, hkd.at 0 _ rfl⟩
        refine wpAnyH_take (i := 0) (oi := { dst := some 25, op := _, type := _, pos := _, after := _, guard := _ }) (v := .agg #[.string nm, .int .i64 nx, .slice Ae l.length ce]) rfl (by kernel_rfl) (by kernel_rfl) (by kernel_rfl) (fun _ _ _ h => h) (Or.inl ⟨by rfl, by (intro w hSw; (try dsimp only at hSw); first | (go_simp; done) | (go_simp; with_reducible rfl) | (go_simp; omega) | (go_simp; simp [*]; done))⟩) (by assumption) ?_; try simp only [Act.put, List.setIfInBounds_toArray, List.set_cons_zero, List.set_cons_succ]
        refine wpAnyH_ready (rs := [1]) (by kernel_rfl) (by simp) ?_
        refine AllReadyH.cons (o := { dst := some 26, op := _, type := _, pos := _, after := _, guard := _ }) rfl (fun K hK => ?_) AllReadyH.nil
        go_simp
        go_at_call 46
        refine (HBx _ hCd).mono ?_
        rintro e w2 ⟨rfl, hb2⟩
        have hX2 := hXd.below hb2 hzd
        have hk2 := hkd.below hb2 hzk
        have hB2 := hBd.trans (hb2.mono hBd.size)
        have hz2 := hb2.size
        go_wp2_with fail
        refine hK.out _ _ ⟨⟨hX2.at 0 _ rfl, hX2.at 1 _ rfl, hX2.at 2 _ rfl⟩, hk2.at 0 _ rfl⟩ (fun hHeld => ?_)
        clear hK K
        cases ok with
        | false =>
          have hR11 := hno (hbd (fun h => by cases h.1))
          subst hR11
          refine wpAnyH_take (i := 2) (oi := { dst := some 27, op := _, type := _, pos := _, after := _, guard := _ }) (v := .bool true) rfl (by kernel_rfl) (by kernel_rfl) (by kernel_rfl) (fun _ _ _ h => h) (Or.inl ⟨by rfl, by (intro w hSw; (try dsimp only at hSw); first | (go_simp; done) | (go_simp; with_reducible rfl) | (go_simp; omega) | (go_simp; simp [*]; done))⟩) (by assumption) ?_; try simp only [Act.put, List.setIfInBounds_toArray, List.set_cons_zero, List.set_cons_succ]
          refine wpAnyH_take (i := 3) (oi := { dst := some 28, op := _, type := _, pos := _, after := _, guard := _ }) (v := .bool true) rfl (by kernel_rfl) (by kernel_rfl) (by kernel_rfl) (fun _ _ _ h => h) (Or.inl ⟨by rfl, by (intro w hSw; (try dsimp only at hSw); first | (go_simp; done) | (go_simp; with_reducible rfl) | (go_simp; omega) | (go_simp; simp [*]; done))⟩) (by assumption) ?_; try simp only [Act.put, List.setIfInBounds_toArray, List.set_cons_zero, List.set_cons_succ]
          refine wpAnyH_take (i := 4) (oi := { dst := some 29, op := _, type := _, pos := _, after := _, guard := _ }) (v := undef) rfl (by kernel_rfl) (by kernel_rfl) (by kernel_rfl) (fun _ _ _ h => h) (Or.inr ⟨by rfl, rfl⟩) (by assumption) ?_; try simp only [Act.put, List.setIfInBounds_toArray, List.set_cons_zero, List.set_cons_succ]
          refine wpAnyH_take (i := 5) (oi := { dst := some 30, op := _, type := _, pos := _, after := _, guard := _ }) (v := undef) rfl (by kernel_rfl) (by kernel_rfl) (by kernel_rfl) (fun _ _ _ h => h) (Or.inr ⟨by rfl, rfl⟩) (by assumption) ?_; try simp only [Act.put, List.setIfInBounds_toArray, List.set_cons_zero, List.set_cons_succ]
          refine wpAnyH_take (i := 6) (oi := { dst := some 31, op := _, type := _, pos := _, after := _, guard := _ }) (v := undef) rfl (by kernel_rfl) (by kernel_rfl) (by kernel_rfl) (fun _ _ _ h => h) (Or.inr ⟨by rfl, rfl⟩) (by assumption) ?_; try simp only [Act.put, List.setIfInBounds_toArray, List.set_cons_zero, List.set_cons_succ]
          refine wpAnyH_take (i := 7) (oi := { dst := some 32, op := _, type := _, pos := _, after := _, guard := _ }) (v := undef) rfl (by kernel_rfl) (by kernel_rfl) (by kernel_rfl) (fun _ _ _ h => h) (Or.inr ⟨by rfl, rfl⟩) (by assumption) ?_; try simp only [Act.put, List.setIfInBounds_toArray, List.set_cons_zero, List.set_cons_succ]
          refine wpAnyH_take (i := 8) (oi := { dst := some 33, op := _, type := _, pos := _, after := _, guard := _ }) (v := undef) rfl (by kernel_rfl) (by kernel_rfl) (by kernel_rfl) (fun _ _ _ h => h) (Or.inr ⟨by rfl, rfl⟩) (by assumption) ?_; try simp only [Act.put, List.setIfInBounds_toArray, List.set_cons_zero, List.set_cons_succ]
          refine wpAnyH_take (i := 9) (oi := { dst := some 34, op := _, type := _, pos := _, after := _, guard := _ }) (v := undef) rfl (by kernel_rfl) (by kernel_rfl) (by kernel_rfl) (fun _ _ _ h => h) (Or.inr ⟨by rfl, rfl⟩) (by assumption) ?_; try simp only [Act.put, List.setIfInBounds_toArray, List.set_cons_zero, List.set_cons_succ]
          refine wpAnyH_take (i := 10) (oi := { dst := some 35, op := _, type := _, pos := _, after := _, guard := _ }) (v := undef) rfl (by kernel_rfl) (by kernel_rfl) (by kernel_rfl) (fun _ _ _ h => h) (Or.inr ⟨by rfl, rfl⟩) (by assumption) ?_; try simp only [Act.put, List.setIfInBounds_toArray, List.set_cons_zero, List.set_cons_succ]
          refine wpAnyH_take (i := 11) (oi := { dst := some 36, op := _, type := _, pos := _, after := _, guard := _ }) (v := undef) rfl (by kernel_rfl) (by kernel_rfl) (by kernel_rfl) (fun _ _ _ h => h) (Or.inr ⟨by rfl, rfl⟩) (by assumption) ?_; try simp only [Act.put, List.setIfInBounds_toArray, List.set_cons_zero, List.set_cons_succ]
          refine wpAnyH_take (i := 12) (oi := { dst := some 37, op := _, type := _, pos := _, after := _, guard := _ }) (v := .bool true) rfl (by kernel_rfl) (by kernel_rfl) (by kernel_rfl) (fun _ _ _ h => h) (Or.inl ⟨by rfl, by (intro w hSw; (try dsimp only at hSw); first | (go_simp; done) | (go_simp; with_reducible rfl) | (go_simp; omega) | (go_simp; simp [*]; done))⟩) (by assumption) ?_; try simp only [Act.put, List.setIfInBounds_toArray, List.set_cons_zero, List.set_cons_succ]
          refine wpAnyH_done (by kernel_rfl) ?_ _
          go_wp2_with fail
          go_ret
          exact ⟨(by first | rfl | (simp; done) | (simp [*]; done) | (rw [if_pos (by omega)]; first | rfl | (simp; done)) | (rw [if_neg (by omega)]; first | rfl | (simp; done)) | (simp; omega)), hB2⟩
        | true =>
          have hpre := C_pre (Kd.C_below hr hB2) k hk
          refine wpAnyH_take (i := 2) (oi := { dst := some 27, op := _, type := _, pos := _, after := _, guard := _ }) (v := .bool false) rfl (by kernel_rfl) (by kernel_rfl) (by kernel_rfl) (fun _ _ _ h => h) (Or.inl ⟨by rfl, by (intro w hSw; (try dsimp only at hSw); first | (go_simp; done) | (go_simp; with_reducible rfl) | (go_simp; omega) | (go_simp; simp [*]; done))⟩) (by assumption) ?_; try simp only [Act.put, List.setIfInBounds_toArray, List.set_cons_zero, List.set_cons_succ]
          refine wpAnyH_take (i := 3) (oi := { dst := some 28, op := _, type := _, pos := _, after := _, guard := _ }) (v := .bool false) rfl (by kernel_rfl) (by kernel_rfl) (by kernel_rfl) (fun _ _ _ h => h) (Or.inl ⟨by rfl, by (intro w hSw; (try dsimp only at hSw); first | (go_simp; done) | (go_simp; with_reducible rfl) | (go_simp; omega) | (go_simp; simp [*]; done))⟩) (by assumption) ?_; try simp only [Act.put, List.setIfInBounds_toArray, List.set_cons_zero, List.set_cons_succ]
          refine wpAnyH_take (i := 4) (oi := { dst := some 29, op := _, type := _, pos := _, after := _, guard := _ }) (v := .pointer (some ⟨w.heap.size, 0, none⟩)) rfl (by kernel_rfl) (by kernel_rfl) (by kernel_rfl) (fun _ _ _ h => h) (Or.inl ⟨by rfl, by (intro w hSw; (try dsimp only at hSw); first | (go_simp; done) | (go_simp; with_reducible rfl) | (go_simp; omega) | (go_simp; simp [*]; done))⟩) (by assumption) ?_; try simp only [Act.put, List.setIfInBounds_toArray, List.set_cons_zero, List.set_cons_succ]
          refine wpAnyH_take (i := 5) (oi := { dst := some 30, op := _, type := _, pos := _, after := _, guard := _ }) (v := .slice (some ad) bs.length c) rfl (by kernel_rfl) (by kernel_rfl) (by kernel_rfl) (fun _ _ _ h => h) (Or.inl ⟨by rfl, by (intro w hSw; (try dsimp only at hSw); first | (go_simp; done) | (go_simp; with_reducible rfl) | (go_simp; omega) | (go_simp; simp [*]; done))⟩) (by assumption) ?_; try simp only [Act.put, List.setIfInBounds_toArray, List.set_cons_zero, List.set_cons_succ]
          refine wpAnyH_take (i := 6) (oi := { dst := some 31, op := _, type := _, pos := _, after := _, guard := _ }) (v := .int .i64 k) rfl (by kernel_rfl) (by kernel_rfl) (by kernel_rfl) (fun _ _ _ h => h) (Or.inl ⟨by rfl, by (intro w hSw; (try dsimp only at hSw); first | (go_simp; done) | (go_simp; with_reducible rfl) | (go_simp; omega) | (go_simp; simp [*]; done))⟩) (by assumption) ?_; try simp only [Act.put, List.setIfInBounds_toArray, List.set_cons_zero, List.set_cons_succ]
          refine wpAnyH_take (i := 7) (oi := { dst := some 32, op := _, type := _, pos := _, after := _, guard := _ }) (v := .slice (some ad) k c) rfl (by kernel_rfl) (by kernel_rfl) (by kernel_rfl) (fun _ _ _ h => h) (Or.inl ⟨by rfl, by (intro w hSw; (try dsimp only at hSw); first | (go_simp; done) | (go_simp; with_reducible rfl) | (go_simp; omega) | (go_simp; simp [*]; done))⟩) (by assumption) ?_; try simp only [Act.put, List.setIfInBounds_toArray, List.set_cons_zero, List.set_cons_succ]
          refine wpAnyH_take (i := 8) (oi := { dst := some 33, op := _, type := _, pos := _, after := _, guard := _ }) (v := .pointer (some ⟨wr.heap.size, 0, none⟩)) rfl (by kernel_rfl) (by kernel_rfl) (by kernel_rfl) (fun _ _ _ h => h) (Or.inl ⟨by rfl, by (intro w hSw; (try dsimp only at hSw); first | (go_simp; done) | (go_simp; with_reducible rfl) | (go_simp; omega) | (go_simp; simp [*]; done))⟩) (by assumption) ?_; try simp only [Act.put, List.setIfInBounds_toArray, List.set_cons_zero, List.set_cons_succ]
          refine wpAnyH_take (i := 9) (oi := { dst := some 34, op := _, type := _, pos := _, after := _, guard := _ }) (v := .string nm) rfl (by kernel_rfl) (by kernel_rfl) (by kernel_rfl) (fun _ _ _ h => h) (Or.inl ⟨by rfl, by (intro w hSw; (try dsimp only at hSw); first | (go_simp; done) | (go_simp; with_reducible rfl) | (go_simp; omega) | (go_simp; simp [*]; done))⟩) (by assumption) ?_; try simp only [Act.put, List.setIfInBounds_toArray, List.set_cons_zero, List.set_cons_succ]
          refine wpAnyH_ready (rs := [10]) (by kernel_rfl) (by simp) ?_
          refine AllReadyH.cons (o := { dst := some 35, op := _, type := _, pos := _, after := _, guard := _ }) rfl (fun K hK => ?_) AllReadyH.nil
          go_simp
          go_at_call 47
          refine (HF.out _ hpre).mono ?_
          rintro e w3 ⟨rfl, hb3⟩
          have hX3 := hX2.below hb3 (by omega)
          have hk3 := hk2.below hb3 (by omega)
          have hB3 := hB2.trans (hb3.mono hB2.size)
          go_wp2_with fail
          refine hK.out _ _ ⟨⟨hX3.at 0 _ rfl, hX3.at 1 _ rfl, hX3.at 2 _ rfl⟩, hk3.at 0 _ rfl⟩ (fun hHeld => ?_)
          clear hK K
          by_cases hfi : fi < 0
          · have hstep := hgd (by trivial) hfi
            have hfi' : ¬ 0 ≤ fi := by omega
            refine wpAnyH_take (i := 11) (oi := { dst := some 36, op := _, type := _, pos := _, after := _, guard := _ }) (v := .bool false) rfl (by kernel_rfl) (by kernel_rfl) (by kernel_rfl) (fun _ _ _ h => h) (Or.inl ⟨by rfl, by (intro w hSw; (try dsimp only at hSw); first | (go_simp; done) | (go_simp; with_reducible rfl) | (go_simp; omega) | (go_simp; simp [*]; done))⟩) (by assumption) ?_; try simp only [Act.put, List.setIfInBounds_toArray, List.set_cons_zero, List.set_cons_succ]
            refine wpAnyH_take (i := 12) (oi := { dst := some 37, op := _, type := _, pos := _, after := _, guard := _ }) (v := .bool false) rfl (by kernel_rfl) (by kernel_rfl) (by kernel_rfl) (fun _ _ _ h => h) (Or.inl ⟨by rfl, by (intro w hSw; (try dsimp only at hSw); first | (go_simp; done) | (go_simp; with_reducible rfl) | (go_simp; omega) | (go_simp; simp [*]; done))⟩) (by assumption) ?_; try simp only [Act.put, List.setIfInBounds_toArray, List.set_cons_zero, List.set_cons_succ]
            refine wpAnyH_done (by kernel_rfl) ?_ _
            replace hyes := Lib.hid (hstep ▸ hyes)
            replace hno := Lib.hid (hstep ▸ hno)
            clear hstep hbd hgd
            go_wp2_with fail
            go_roundw
            case rel => exact ⟨k + 1, hlt, by go_num, hyes.out, hno.out, hk3, hB3⟩
            case measure => simp [intOf]; omega
          · have hR11 := hno (hbd (fun h => hfi h.2))
            subst hR11
            have hfi' : 0 ≤ fi := by omega
            refine wpAnyH_take (i := 11) (oi := { dst := some 36, op := _, type := _, pos := _, after := _, guard := _ }) (v := .bool true) rfl (by kernel_rfl) (by kernel_rfl) (by kernel_rfl) (fun _ _ _ h => h) (Or.inl ⟨by rfl, by (intro w hSw; (try dsimp only at hSw); first | (go_simp; done) | (go_simp; with_reducible rfl) | (go_simp; omega) | (go_simp; simp [*]; done))⟩) (by assumption) ?_; try simp only [Act.put, List.setIfInBounds_toArray, List.set_cons_zero, List.set_cons_succ]
            refine wpAnyH_take (i := 12) (oi := { dst := some 37, op := _, type := _, pos := _, after := _, guard := _ }) (v := .bool true) rfl (by kernel_rfl) (by kernel_rfl) (by kernel_rfl) (fun _ _ _ h => h) (Or.inl ⟨by rfl, by (intro w hSw; (try dsimp only at hSw); first | (go_simp; done) | (go_simp; with_reducible rfl) | (go_simp; omega) | (go_simp; simp [*]; done))⟩) (by assumption) ?_; try simp only [Act.put, List.setIfInBounds_toArray, List.set_cons_zero, List.set_cons_succ]
            refine wpAnyH_done (by kernel_rfl) ?_ _
            go_wp2_with fail
            go_ret
            exact ⟨(by first | rfl | (simp; done) | (simp [*]; done) | (rw [if_pos (by omega)]; first | rfl | (simp; done)) | (rw [if_neg (by omega)]; first | rfl | (simp; done)) | (simp; omega)), hB3⟩
      · obtain rfl : k = bs.length := by omega
        have i1 : ¬ (bs.length : Int) < (bs.length : Int) := by omega
        have hall := hyes (boxes_end (by omega))
        have b1 := hblk.at 1 _ rfl
        rw [stTail, if_pos hall] at hR
        have htot : stSize bs ≤ 1000000 := by
          have h1 := boxes_sz bs.length 0 (by omega) hall
          have h2 : (bs.length - 0) * 60000 ≤ 5 * 60000 := Nat.mul_le_mul_right _ (by omega)
          rw [List.drop_zero] at h1; omega
        clear hyes hno hall
        replace hR := Lib.hid hR
        go_wp2_with fail
        go_loopw [42] (fun i wr => ∃ k : Nat, k ≤ es.length ∧ i = .int .i64 k ∧ spoolOk (es.drop k) = spoolOk es ∧ Blk wr w.heap.size [.slice A bs.length c, .slice A2 es.length c2] ∧ Below w.heap.size w wr) (fun i _ => es.length - (intOf i).toNat)
        case atStart => exact ⟨0, Nat.zero_le _, rfl, rfl, hblk, hB⟩
        case round =>
          clear hblk hB b0 b1 hz
          obtain ⟨k, hk, rfl, hsp, hblk, hB⟩ := hrel
          have hz := hblk.lt
          have b0 := hblk.at 0 _ rfl
          have b1 := hblk.at 1 _ rfl
          by_cases hlt : k < es.length
          · obtain ⟨ad, e1, hx0, hxj⟩ := flat_at (Kd.C_below hr2 hB) k hlt
            subst e1
            have q0 := hx0 _ rfl; have q1 := hxj 1 _ (by decide) rfl; have q2 := hxj 2 _ (by decide) rfl; have q3 := hxj 3 _ (by decide) rfl; have q4 := hxj 4 _ (by decide) rfl; have q5 := hxj 5 _ (by decide) rfl
            clear hx0 hxj
            obtain ⟨s1, s2, s3⟩ := hs.2 _ (List.getElem_mem hlt)
            have hbd := fun h => spool_bad hlt h
            have hgd := fun h h2 => spool_good hlt h h2
            rw [hsp] at hbd hgd
            have i0 : (0 : Int) ≤ (k : Int) := by omega
            have j1 : (k : Int) < (es.length : Int) := by omega
            generalize es[k] = x at *
            have HF := fun w hm hg => form_calls x m w s1 s2 s3 hm hg
            by_cases hk6 : x.kind = 6
            · by_cases hf : entryFault x = 0
              · rw [hf] at HF
                have hn := hgd hk6 hf
                replace hn := Lib.hid hn
                replace HF := Lib.hid HF
                have hkb : (x.kind != 6) = false := by simp [hk6]
                clear hbd hgd hf hsp hk6
                go_wp2_with fail
                refine (HF.out _ (cell_below (B := wr.heap.size) (by repeat (first | exact Below.refl _ _ | apply below_alloc | apply pw_below_drewN | apply below_drew1 | (refine Below.setCell ?_ (by first | (simp; done) | (simp; omega) | omega) _) )) (cell_below hB hm hg) (by omega)) (by first | (simp; done) | (simp; omega) | omega)).mono ?_
                rintro e w2 ⟨rfl, hc2⟩
                have hb2 : Below wr.heap.size wr w2 := (by repeat (first | exact Below.refl _ _ | apply below_alloc | apply pw_below_drewN | apply below_drew1 | (refine Below.setCell ?_ (by first | (simp; done) | (simp; omega) | omega) _) | (refine below_then ?_ (by first | (simp; done) | (simp; omega) | omega) hc2)))
                have hblk2 := hblk.below hb2 hz
                have hB2 := hB.trans (hb2.mono (by omega))
                clear hc2 hb2 hblk
                go_wp2_with fail
                go_roundw
                case rel => exact ⟨k + 1, hlt, by go_num, hn.out.symm, hblk2, hB2⟩
                case measure => simp [intOf]; omega
              · have hR2 := hR.out
                rw [hbd (fun h => hf h.2), if_neg (by decide)] at hR2
                subst hR2
                generalize entryFault x = f at *
                have hfb : (f != 0) = true := by simp [hf]
                replace HF := Lib.hid HF
                have hkb : (x.kind != 6) = false := by simp [hk6]
                clear hbd hgd hf hsp hk6
                go_wp2_with fail
                refine (HF.out _ (cell_below (B := wr.heap.size) (by repeat (first | exact Below.refl _ _ | apply below_alloc | apply pw_below_drewN | apply below_drew1 | (refine Below.setCell ?_ (by first | (simp; done) | (simp; omega) | omega) _) )) (cell_below hB hm hg) (by omega)) (by first | (simp; done) | (simp; omega) | omega)).mono ?_
                rintro e w2 ⟨rfl, hc2⟩
                have hB2 : Below w.heap.size w w2 := (by repeat (first | exact Below.refl _ _ | apply below_alloc | apply pw_below_drewN | apply below_drew1 | (refine Below.setCell ?_ (by first | (simp; done) | (simp; omega) | omega) _) | (refine below_then ?_ (by first | (simp; done) | (simp; omega) | omega) hc2) | exact hB))
                go_wp2_with fail
                go_ret
                exact ⟨(by first | rfl | (simp; done) | (simp [*]; done) | (rw [if_pos (by omega)]; first | rfl | (simp; done)) | (rw [if_neg (by omega)]; first | rfl | (simp; done)) | (simp; omega)), hB2⟩
            · have hR2 := hR.out
              rw [hbd (fun h => hk6 h.1), if_neg (by decide)] at hR2
              subst hR2
              have hkb : (x.kind != 6) = true := by simp [hk6]
              clear hbd hgd hsp HF
              go_wp2_with fail
              go_ret
              exact ⟨(by first | rfl | (simp; done) | (simp [*]; done) | (rw [if_pos (by omega)]; first | rfl | (simp; done)) | (rw [if_neg (by omega)]; first | rfl | (simp; done)) | (simp; omega)), (by repeat (first | exact Below.refl _ _ | apply below_alloc | apply pw_below_drewN | apply below_drew1 | (refine Below.setCell ?_ (by first | (simp; done) | (simp; omega) | omega) _) | exact hB))⟩
          · obtain rfl : k = es.length := by omega
            rw [spool_end] at hsp
            have hR2 := hR.out
            rw [← hsp, if_pos rfl] at hR2
            have j1 : ¬ (es.length : Int) < (es.length : Int) := by omega
            have HS := Lib.hid (size_calls A c bs (.slice A2 es.length c2) wr ⟨_, _, _, rfl⟩ (Kd.C_below hr hB) htot)
            clear hsp hR
            by_cases hbig : 6000 < stSize bs
            · rw [if_pos hbig] at hR2
              subst hR2
              have hbig' : (6000 : Int) < ((stSize bs : Nat) : Int) := by omega
              go_wp2_with fail
              refine HS.out.mono ?_
              rintro e w2 ⟨rfl, hb2⟩
              go_wp2_with fail
              go_ret
              exact ⟨(by first | rfl | (simp; done) | (simp [*]; done) | (rw [if_pos (by omega)]; first | rfl | (simp; done)) | (rw [if_neg (by omega)]; first | rfl | (simp; done)) | (simp; omega)), hB.trans (hb2.mono hB.size)⟩
            · rw [if_neg hbig] at hR2
              subst hR2
              have hbig' : ¬ (6000 : Int) < ((stSize bs : Nat) : Int) := by omega
              go_wp2_with fail
              refine HS.out.mono ?_
              rintro e w2 ⟨rfl, hb2⟩
              go_wp2_with fail
              go_ret
              exact ⟨(by first | rfl | (simp; done) | (simp [*]; done) | (rw [if_pos (by omega)]; first | rfl | (simp; done)) | (rw [if_neg (by omega)]; first | rfl | (simp; done)) | (simp; omega)), hB.trans (hb2.mono hB.size)⟩
end Go.Proofs.YtijdghplfhfpaaaDoor.H

/- Boxes: box.All. -/
namespace Go.Proofs.YtijdghplfhfpaaaDoor.H
open Go.RowKit Go.Proofs.YtijdghplfhfpaaaDoorW.PrintWords Go.Proofs.YtijdghplfhfpaaaDoorW.PrintLast Go.Proofs.YtijdghplfhfpaaaDoor.U
set_option linter.unusedVariables false
set_option linter.unusedSimpArgs false
theorem fold_form {bs : List ABox} {es l : List AEntry} {k : Nat} (h : k < l.length) (h2 : ¬ entryFault l[k] = 0) : foldE bs es (l.drop k) = (entryFault l[k], [], []) := by
  rw [List.drop_eq_getElem_cons h, foldE, if_pos h2]
theorem fold_fail {bs : List ABox} {es l : List AEntry} {k : Nat} (h : k < l.length) (h2 : entryFault l[k] = 0) (h3 : ¬ (entV bs es l[k]).1 = 0) : foldE bs es (l.drop k) = ((entV bs es l[k]).1, [], []) := by
  rw [List.drop_eq_getElem_cons h, foldE, if_neg (by rw [h2]; decide), if_pos h3]
theorem fold_step {bs : List ABox} {es l : List AEntry} {k : Nat} (h : k < l.length) (h2 : entryFault l[k] = 0) (h3 : (entV bs es l[k]).1 = 0) : foldE bs es (l.drop k) = foldE (entV bs es l[k]).2.1 (entV bs es l[k]).2.2 (l.drop (k + 1)) := by
  rw [List.drop_eq_getElem_cons h, foldE, if_neg (by rw [h2]; decide), if_neg (by rw [h3]; decide)]
theorem fold_end (bs : List ABox) (es l : List AEntry) : foldE bs es (l.drop l.length) = (0, bs, es) := by rw [List.drop_length]; rfl
def PostAll (w : World) (R : Int × List ABox × List AEntry) (e : Ending) (w' : World) : Prop :=
  ∃ vB vS : Value, e = .returned (.tuple #[.agg #[vB, vS], .int .i64 R.1]) ∧ Kd.S kBox 77 w' w.heap.size (fun _ => True) vB R.2.1 ∧ Kd.R kAEntry 40 w' w.heap.size (fun _ => True) vS R.2.2 ∧ Below w.heap.size w w'
set_option maxHeartbeats 2000000 in
set_option maxRecDepth 100000 in
theorem all_calls (A : Option Addr) (c : Nat) (bs : List ABox) (A2 : Option Addr) (c2 : Nat) (es : List AEntry) (Al : Option Addr) (cl : Nat) (l : List AEntry) (m : Int) (w : World) (hr : kBox.C w A bs.length bs) (hc : bs.length ≤ c) (hr2 : Kd.C kAEntry w A2 es.length es) (hs : okSt bs es)
    (hrl : Kd.C kAEntry w Al l.length l) (hsl : ∀ x ∈ l, okE x) (hm : w.cell? ⟨6, 0, none⟩ = some (.int .i64 m)) (hg : 6 < w.heap.size) :
    Calls Tryd.prog 19 #[.agg #[.slice A bs.length c, .slice A2 es.length c2], .slice Al l.length cl] w (PostAll w (allV bs es l)) := by
  have h63 := hrl.2.1
  obtain ⟨W2, hW2⟩ : ∃ W2 : World, W2 = (w.alloc (.cells #[.slice A bs.length c, .slice A2 es.length c2] 25)).alloc (.cells #[.slice none 0 0, .slice none 0 0] 25) := ⟨_, rfl⟩
  have hP0 : Blk W2 w.heap.size [.slice A bs.length c, .slice A2 es.length c2] := by rw [hW2]; exact (Blk.made w _ _).alloc _
  have hQ0 : Blk W2 (w.heap.size + 1) [.slice none 0 0, .slice none 0 0] := by rw [hW2]; exact Blk.made_at _ _ _ (by simp)
  have hB0 : Below w.heap.size w W2 := by rw [hW2]; exact (by repeat (first | exact Below.refl _ _ | apply below_alloc | apply pw_below_drewN | apply below_drew1 | (refine Below.setCell ?_ (by first | (simp; done) | (simp; omega) | omega) _) ))
  have hz0 : W2.heap.size = w.heap.size + 2 := by rw [hW2]; simp
  replace hW2 := Lib.hid hW2
  have p00 := hP0.at 0 _ rfl
  have p01 := hP0.at 1 _ rfl
  have HC := boxCheck_calls A c bs A2 c2 es m W2 (Kd.C_below hr hB0) hc (Kd.C_below hr2 hB0) hs (cell_below hB0 hm hg) (by omega)
  by_cases hf : stFault bs es = 0
  · have hinv := inv_of_ok hs hf
    rw [hf] at HC
    replace HC := Lib.hid HC
    by_cases h10 : 10 < l.length
    · rw [show allV bs es l = (1, [], []) by rw [allV, if_neg (by rw [hf]; decide), if_pos h10]]
      have h10' : (10 : Int) < (l.length : Int) := by omega
      clear hf
      go_enter Tryd.func19, Tryd.ntmps19
      go_wp2_with fail
      rw [← hW2.out]
      refine HC.out.mono ?_
      rintro e w1 ⟨rfl, hb1⟩
      have hz1 := hb1.size
      have hQ1 := hQ0.below hb1 (by omega)
      have hB1 := hB0.trans (hb1.mono (by omega))
      have q0 := (hQ1).at 0 _ rfl
      have q1 := (hQ1).at 1 _ rfl
      have q2 := (hQ1).free 0 _ rfl
      have q3 := (hQ1).free 1 _ rfl
      go_wp2_with fail
      refine bodyPost_ret (v := .tuple #[.agg #[.slice none 0 0, .slice none 0 0], .int .i64 1]) (by simp [results, Tryd.results19, go_sem, *]) rfl ?_
      exact ⟨_, _, rfl, Kd.S_nil _ _ _ _ _, Kd.R_nil _ _ _ _ _, (by repeat (first | exact Below.refl _ _ | apply below_alloc | apply pw_below_drewN | apply below_drew1 | (refine Below.setCell ?_ (by first | (simp; done) | (simp; omega) | omega) _) | exact hB1))⟩
    · rw [show allV bs es l = foldE bs es l by rw [allV, if_neg (by rw [hf]; decide), if_neg h10]]
      have h10' : ¬ (10 : Int) < (l.length : Int) := by omega
      generalize hF : foldE bs es l = F
      replace hF := Lib.hid hF
      clear hf
      have hb30 : ∀ b ∈ bs, b.2.2.length ≤ 1048576 := fun b hb => by have := (hinv.2.2 b hb).2.2.2.1; omega
      have hi1 := hinv.1
      have hi2 := hinv.2.1
      have HO := Lib.hid (fun W h1 h2 => own_calls A c bs A2 c2 es W h1 h2 (by omega) (by omega) hb30)
      go_enter Tryd.func19, Tryd.ntmps19
      go_wp2_with fail
      rw [← hW2.out]
      refine HC.out.mono ?_
      rintro e w1 ⟨rfl, hb1⟩
      have hz1 := hb1.size
      have hP1 := hP0.below hb1 (by omega)
      have hQ1 := hQ0.below hb1 (by omega)
      have hB1 := hB0.trans (hb1.mono (by omega))
      have p10 := hP1.at 0 _ rfl
      have p11 := hP1.at 1 _ rfl
      clear hP0 hQ0 hB0 p00 p01 hb1
      go_wp2_with fail
      refine (HO.out _ (Kd.C_below hr hB1) (Kd.C_below hr2 hB1)).mono ?_
      rintro e w3 ⟨vB, vS, rfl, hS3, hE3, hb3⟩
      obtain ⟨Ab, cb, rfl⟩ := Kd.S_slice hS3
      obtain ⟨As, cs, rfl⟩ := Kd.R_slice hE3
      have hz3 := hb3.size
      obtain ⟨W4, hW4⟩ : ∃ W4 : World, W4 = w3.alloc (.cells #[.slice Ab bs.length cb, .slice As es.length cs] 25) := ⟨_, rfl⟩
      have hQ4 : Blk W4 (w.heap.size + 1) [.slice none 0 0, .slice none 0 0] := by rw [hW4]; exact (hQ1.below hb3 (by omega)).alloc _
      have hO4 : Blk W4 w3.heap.size [.slice Ab bs.length cb, .slice As es.length cs] := by rw [hW4]; exact Blk.made _ _ _
      have hB4 : Below w.heap.size w W4 := by rw [hW4]; exact below_alloc' (hB1.trans (hb3.mono (by omega))) (by omega) _
      have hS4 : Kd.S kBox 77 W4 w1.heap.size (fun k => k ≠ w3.heap.size) (.slice Ab bs.length cb) bs := by rw [hW4]; exact Kd.S_mono (Kd.S_below (Kd.S_bound hS3) (by repeat (first | exact Below.refl _ _ | apply below_alloc | apply pw_below_drewN | apply below_drew1 | (refine Below.setCell ?_ (by first | (simp; done) | (simp; omega) | omega) _) ))) (fun k hk => by have := hk.2.2.1; omega)
      have hE4 : Kd.R kAEntry 40 W4 w1.heap.size (fun k => k ≠ w3.heap.size) (.slice As es.length cs) es := by rw [hW4]; exact Kd.R_mono (Kd.R_below (Kd.R_bound hE3) (by repeat (first | exact Below.refl _ _ | apply below_alloc | apply pw_below_drewN | apply below_drew1 | (refine Below.setCell ?_ (by first | (simp; done) | (simp; omega) | omega) _) ))) (fun k hk => by have := hk.2.2.1; omega)
      have hst4 : StB W4 w1.heap.size w3.heap.size bs es := ⟨_, _, hO4, by omega, hS4, hE4⟩
      have hz4 : W4.heap.size = w3.heap.size + 1 := by rw [hW4]; simp
      replace hW4 := Lib.hid hW4
      clear hP1 hQ1 hB1 p10 p11 hb3 hS3 hE3 hO4 hS4 hE4
      go_wp2_with fail
      rw [← hW4.out]
      go_loopw [26] (fun i wr => ∃ (k : Nat) (bs' : List ABox) (es' : List AEntry), k ≤ l.length ∧ i = .int .i64 k ∧ foldE bs' es' (l.drop k) = F ∧ InvS bs' es' ∧ StB wr w1.heap.size w3.heap.size bs' es' ∧ Blk wr (w.heap.size + 1) [.slice none 0 0, .slice none 0 0] ∧ Below w.heap.size w wr) (fun i _ => l.length - (intOf i).toNat)
      case atStart => exact ⟨0, bs, es, Nat.zero_le _, rfl, hF.out, hinv, hst4, hQ4, hB4⟩
      case round =>
        clear hF hst4 hQ4 hB4 hinv hi1 hi2
        obtain ⟨k, bs', es', hk, rfl, hF, hinv, hst, hQ, hB⟩ := hrel
        have hzr := hst.lt
        have hqr := hQ.lt
        by_cases hlt : k < l.length
        · obtain ⟨ad, e1, hx0, hxj⟩ := flat_at (Kd.C_below hrl hB) k hlt
          subst e1
          have q0 := hx0 _ rfl; have q1 := hxj 1 _ (by decide) rfl; have q2 := hxj 2 _ (by decide) rfl; have q3 := hxj 3 _ (by decide) rfl; have q4 := hxj 4 _ (by decide) rfl; have q5 := hxj 5 _ (by decide) rfl
          clear hx0 hxj
          obtain ⟨s1, s2, s3⟩ := hsl _ (List.getElem_mem hlt)
          have i0 : (0 : Int) ≤ (k : Int) := by omega
          have i1 : (k : Int) < (l.length : Int) := by omega
          have hff := fun h => fold_form (bs := bs') (es := es') hlt h
          have hfl := fun h h2 => fold_fail (bs := bs') (es := es') hlt h h2
          have hfs := fun h h2 => fold_step (bs := bs') (es := es') hlt h h2
          rw [hF] at hff hfl hfs
          clear hF
          generalize l[k] = x at *
          obtain ⟨Wx, hWx⟩ : ∃ Wx : World, Wx = wr.alloc (.cells #[.int .i64 x.kind, .string x.box, .int .i64 x.uid, .int .i64 x.flags, .string x.to_, .string x.text] 40) := ⟨_, rfl⟩
          have hX : Blk Wx wr.heap.size [.int .i64 x.kind, .string x.box, .int .i64 x.uid, .int .i64 x.flags, .string x.to_, .string x.text] := by rw [hWx]; exact Blk.made _ _ _
          have hbx : Below wr.heap.size wr Wx := by rw [hWx]; exact (by repeat (first | exact Below.refl _ _ | apply below_alloc | apply pw_below_drewN | apply below_drew1 | (refine Below.setCell ?_ (by first | (simp; done) | (simp; omega) | omega) _) ))
          have hstx := hst.new hbx
          have hQx := hQ.below hbx (by omega)
          have hBx := hB.trans (hbx.mono (by omega))
          have hzx : Wx.heap.size = wr.heap.size + 1 := by rw [hWx]; simp
          replace hWx := Lib.hid hWx
          have HF := form_calls x m Wx s1 s2 s3 (cell_below hBx hm hg) (by omega)
          by_cases hxf : entryFault x = 0
          · rw [hxf] at HF
            replace HF := Lib.hid HF
            have HA := fun W h => apply_calls w3.heap.size x w1.heap.size bs' es' W h hinv hxf
            have hinv2 := inv_ent hinv hxf
            by_cases hen : (entV bs' es' x).1 = 0
            · have hF2 := hfs hxf hen
              rw [hen] at HA
              generalize (entV bs' es' x).2.1 = bs2 at *
              generalize (entV bs' es' x).2.2 = es2 at *
              replace HA := Lib.hid HA
              replace hF2 := Lib.hid hF2.symm
              clear hff hfl hfs hen hxf
              go_wp2_with fail
              rw [← hWx.out]
              refine HF.out.mono ?_
              rintro e w5 ⟨rfl, hb5⟩
              have hst5 := hstx.new hb5
              have hQ5 := hQx.below hb5 (by omega)
              have hB5 := hBx.trans (hb5.mono (by omega))
              have hX5 := hX.below hb5 (by omega)
              have x0 := hX5.at 0 _ rfl
              have x1 := hX5.at 1 _ rfl
              have x2 := hX5.at 2 _ rfl
              have x3 := hX5.at 3 _ rfl
              have x4 := hX5.at 4 _ rfl
              have x5 := hX5.at 5 _ rfl
              go_wp2_with fail
              refine (HA.out _ hst5).mono ?_
              rintro e w6 ⟨rfl, hst6, hb6⟩
              go_wp2_with fail
              go_roundw
              case rel => exact ⟨k + 1, bs2, es2, hlt, by go_num, hF2.out, hinv2, hst6, hQ5.below hb6 (by omega), hB5.trans (hb6.mono (by omega))⟩
              case measure => simp [intOf]; omega
            · have hF2 := hfl hxf hen
              subst hF2
              generalize (entV bs' es' x).1 = f at *
              generalize (entV bs' es' x).2.1 = bs2 at *
              generalize (entV bs' es' x).2.2 = es2 at *
              have hfb : (f != 0) = true := by simp [hen]
              replace HA := Lib.hid HA
              clear hff hfs hen hxf hfl
              go_wp2_with fail
              rw [← hWx.out]
              refine HF.out.mono ?_
              rintro e w5 ⟨rfl, hb5⟩
              have hst5 := hstx.new hb5
              have hQ5 := hQx.below hb5 (by omega)
              have hB5 := hBx.trans (hb5.mono (by omega))
              have hX5 := hX.below hb5 (by omega)
              have x0 := hX5.at 0 _ rfl
              have x1 := hX5.at 1 _ rfl
              have x2 := hX5.at 2 _ rfl
              have x3 := hX5.at 3 _ rfl
              have x4 := hX5.at 4 _ rfl
              have x5 := hX5.at 5 _ rfl
              go_wp2_with fail
              refine (HA.out _ hst5).mono ?_
              rintro e w6 ⟨rfl, hst6, hb6⟩
              have hQ6 := hQ5.below hb6 (by omega)
              have hB6 := hB5.trans (hb6.mono (by omega))
              clear x0 x1 x2 x3 x4 x5
              have q0 := (hQ6).at 0 _ rfl
              have q1 := (hQ6).at 1 _ rfl
              have q2 := (hQ6).free 0 _ rfl
              have q3 := (hQ6).free 1 _ rfl
              go_wp2_with fail
              refine bodyPost_ret (v := .tuple #[.agg #[.slice none 0 0, .slice none 0 0], .int .i64 f]) (by simp [results, Tryd.results19, go_sem, *]) rfl ?_
              exact ⟨_, _, rfl, Kd.S_nil _ _ _ _ _, Kd.R_nil _ _ _ _ _, (by repeat (first | exact Below.refl _ _ | apply below_alloc | apply pw_below_drewN | apply below_drew1 | (refine Below.setCell ?_ (by first | (simp; done) | (simp; omega) | omega) _) | exact hB6))⟩
          · have hF2 := hff hxf
            subst hF2
            generalize entryFault x = f at *
            have hfb : (f != 0) = true := by simp [hxf]
            replace HF := Lib.hid HF
            clear hff hfs hxf hfl
            go_wp2_with fail
            rw [← hWx.out]
            refine HF.out.mono ?_
            rintro e w5 ⟨rfl, hb5⟩
            have hQ5 := hQx.below hb5 (by omega)
            have hB5 := hBx.trans (hb5.mono (by omega))
            have q0 := (hQ5).at 0 _ rfl
            have q1 := (hQ5).at 1 _ rfl
            have q2 := (hQ5).free 0 _ rfl
            have q3 := (hQ5).free 1 _ rfl
            go_wp2_with fail
            refine bodyPost_ret (v := .tuple #[.agg #[.slice none 0 0, .slice none 0 0], .int .i64 f]) (by simp [results, Tryd.results19, go_sem, *]) rfl ?_
            exact ⟨_, _, rfl, Kd.S_nil _ _ _ _ _, Kd.R_nil _ _ _ _ _, (by repeat (first | exact Below.refl _ _ | apply below_alloc | apply pw_below_drewN | apply below_drew1 | (refine Below.setCell ?_ (by first | (simp; done) | (simp; omega) | omega) _) | exact hB5))⟩
        · obtain rfl : k = l.length := by omega
          rw [fold_end] at hF
          subst hF
          have i1 : ¬ (l.length : Int) < (l.length : Int) := by omega
          obtain ⟨vB, vS, hk, hp, hS, hE⟩ := hst
          obtain ⟨Ab2, cb2, rfl, hcb2, hCb2⟩ := Kd.S_reads hS
          obtain ⟨As2, cs2, rfl, hcs2, hCs2⟩ := Kd.R_reads hE
          have k0 := hk.at 0 _ rfl
          have k1 := hk.at 1 _ rfl
          have HO2 := Lib.hid (own_calls Ab2 cb2 bs' As2 cs2 es' wr hCb2 hCs2 (by have := hinv.1; omega) (by have := hinv.2.1; omega) (fun b hb => by have := (hinv.2.2 b hb).2.2.2.1; omega))
          go_wp2_with fail
          refine HO2.out.mono ?_
          rintro e w5 ⟨vB5, vS5, rfl, hS5, hE5, hb5⟩
          obtain ⟨A5, c5, rfl⟩ := Kd.S_slice hS5
          obtain ⟨A6, c6, rfl⟩ := Kd.R_slice hE5
          have hz5 := hb5.size
          have hQ5 := hQ.below hb5 (by omega)
          have hB5 := hB.trans (hb5.mono (by omega))
          have q0 := hQ5.at 0 _ rfl
          have q1 := hQ5.at 1 _ rfl
          have q2 := hQ5.free 0 _ rfl
          have q3 := hQ5.free 1 _ rfl
          go_wp2_with fail
          refine bodyPost_ret (v := .tuple #[.agg #[.slice A5 bs'.length c5, .slice A6 es'.length c6], .int .i64 0]) (by simp [results, Tryd.results19, go_sem, *]) rfl ?_
          refine ⟨_, _, rfl, ?_, ?_, (by repeat (first | exact Below.refl _ _ | apply below_alloc | apply pw_below_drewN | apply below_drew1 | (refine Below.setCell ?_ (by first | (simp; done) | (simp; omega) | omega) _) | exact hB5))⟩
          · exact Kd.S_lower (S_elder (S_elder hS5 (show w.heap.size + 1 < wr.heap.size by omega) _) (show w.heap.size + 1 < wr.heap.size by omega) _) (by omega)
          · exact Kd.R_lower (R_elder (R_elder hE5 (show w.heap.size + 1 < wr.heap.size by omega) _) (show w.heap.size + 1 < wr.heap.size by omega) _) (by omega)
  · rw [show allV bs es l = (stFault bs es, [], []) by rw [allV, if_pos hf]]
    generalize stFault bs es = f at *
    have hfb : (f != 0) = true := by simp [hf]
    replace HC := Lib.hid HC
    clear hf
    go_enter Tryd.func19, Tryd.ntmps19
    go_wp2_with fail
    rw [← hW2.out]
    refine HC.out.mono ?_
    rintro e w1 ⟨rfl, hb1⟩
    have hz1 := hb1.size
    have hQ1 := hQ0.below hb1 (by omega)
    have hB1 := hB0.trans (hb1.mono (by omega))
    have q0 := (hQ1).at 0 _ rfl
    have q1 := (hQ1).at 1 _ rfl
    have q2 := (hQ1).free 0 _ rfl
    have q3 := (hQ1).free 1 _ rfl
    go_wp2_with fail
    refine bodyPost_ret (v := .tuple #[.agg #[.slice none 0 0, .slice none 0 0], .int .i64 f]) (by simp [results, Tryd.results19, go_sem, *]) rfl ?_
    exact ⟨_, _, rfl, Kd.S_nil _ _ _ _ _, Kd.R_nil _ _ _ _ _, (by repeat (first | exact Below.refl _ _ | apply below_alloc | apply pw_below_drewN | apply below_drew1 | (refine Below.setCell ?_ (by first | (simp; done) | (simp; omega) | omega) _) | exact hB1))⟩
end Go.Proofs.YtijdghplfhfpaaaDoor.H
