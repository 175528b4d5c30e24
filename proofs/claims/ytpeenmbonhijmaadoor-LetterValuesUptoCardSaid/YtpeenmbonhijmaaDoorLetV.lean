/- Letters: values of a name: the walks. -/
import Derived.Test.YtpeenmbonhijmaaDoorLetG
import Derived.Test.YtpeenmbonhijmaaDoorGlobA
namespace Go.Proofs.YtpeenmbonhijmaaDoor.H
open Go.RowKit Go.Proofs.YtpeenmbonhijmaaDoorW.PrintWords Go.Proofs.YtpeenmbonhijmaaDoorW.PrintLast Go.Proofs.YtpeenmbonhijmaaDoorW.PrintMore Go.Proofs.YtpeenmbonhijmaaDoor.U
set_option linter.unusedVariables false
set_option linter.unusedSimpArgs false
def sameLow (a b : ByteArray) : Bool := (lowS a).toList == (lowS b).toList
def mSize (s p : ByteArray) : Bool := decide (s.size ≤ 2000) && decide (p.size ≤ 100)
/-- What glob.Match answers at the kind Is. -/
def isV (s p : ByteArray) : Bool := if s.size ≤ 2000 ∧ p.size ≤ 100 then sameLow s p else false
def isE (s p : ByteArray) : Int := if s.size ≤ 2000 ∧ p.size ≤ 100 then 0 else 1
set_option maxHeartbeats 1000000 in
set_option maxRecDepth 100000 in
theorem matchIs_calls (s p : ByteArray) (w : World) (hs : s.size ≤ 1048576) (hp : p.size ≤ 1048576) : Calls Tryd.prog 75 #[.int .i64 1, .string s, .string p] w fun e w' => e = .returned (.tuple #[.bool (isV s p), .int .i64 (isE s p)]) ∧ Below w.heap.size w w' := by
  unfold isV isE
  have HF := Lib.hid (fun (s : ByteArray) w hs => fold_calls s w hs)
  rcases (by omega : 2000 < s.size ∨ (s.size ≤ 2000 ∧ 100 < p.size) ∨ (s.size ≤ 2000 ∧ p.size ≤ 100)) with h | ⟨h1, h⟩ | ⟨h1, h2⟩
  · rw [if_neg (by omega), if_neg (by omega)]
    have i1 : (2000 : Int) < s.size := by omega
    go_enter Tryd.func75, Tryd.ntmps75
    go_wp2_with fail
    refine bodyPost_ret (v := .tuple #[.bool false, .int .i64 1]) (by simp [results, Tryd.results75, go_sem, *]) rfl ⟨rfl, (by repeat (first | exact Below.refl _ _ | apply below_alloc | apply pw_below_drewN | apply below_drew1 | (refine Below.setCell ?_ (by first | (simp; done) | (simp; omega) | omega) _) ))⟩
  · rw [if_neg (by omega), if_neg (by omega)]
    have i1 : ¬ (2000 : Int) < s.size := by omega
    have i2 : (100 : Int) < p.size := by omega
    go_enter Tryd.func75, Tryd.ntmps75
    go_wp2_with fail
    refine bodyPost_ret (v := .tuple #[.bool false, .int .i64 1]) (by simp [results, Tryd.results75, go_sem, *]) rfl ⟨rfl, (by repeat (first | exact Below.refl _ _ | apply below_alloc | apply pw_below_drewN | apply below_drew1 | (refine Below.setCell ?_ (by first | (simp; done) | (simp; omega) | omega) _) ))⟩
  · rw [if_pos ⟨h1, h2⟩, if_pos ⟨h1, h2⟩]
    have i1 : ¬ (2000 : Int) < s.size := by omega
    have i2 : ¬ (100 : Int) < p.size := by omega
    unfold sameLow
    have H1 := HF.out s
    have H2 := HF.out p
    generalize lowS s = a at *
    generalize lowS p = b at *
    have H1 := Lib.hid H1
    have H2 := Lib.hid H2
    go_enter Tryd.func75, Tryd.ntmps75
    go_wp2_with fail
    refine (H1.out _ (by omega)).mono ?_
    rintro e w1 ⟨rfl, hb1⟩
    have hz1 := hb1.size
    go_wp2_with fail
    refine (H2.out _ (by omega)).mono ?_
    rintro e w2 ⟨rfl, hb2⟩
    go_wp2_with fail
    refine bodyPost_ret (v := .tuple #[.bool (a.toList == b.toList), .int .i64 0]) (by simp [results, Tryd.results75, go_sem, *]) rfl ⟨rfl, (by repeat (first | exact Below.refl _ _ | apply below_alloc | apply pw_below_drewN | apply below_drew1 | (refine Below.setCell ?_ (by first | (simp; done) | (simp; omega) | omega) _) | (refine below_then ?_ (by first | (simp; done) | (simp; omega) | omega) hb2) | (refine below_then ?_ (by first | (simp; done) | (simp; omega) | omega) hb1)))⟩
def valsOf (n : ByteArray) (p : AField → Bool) (l : List AField) : List ByteArray := (l.filter p).map (·.value)
theorem vals_snoc (n : ByteArray) (p : AField → Bool) (l : List AField) (k : Nat) (h : k < l.length) : valsOf n p (l.take (k + 1)) = if p l[k] then valsOf n p (l.take k) ++ [l[k].value] else valsOf n p (l.take k) := by
  rw [List.take_succ_eq_append_getElem h, valsOf, List.filter_append, List.map_append]
  cases hp : p l[k] <;> simp [hp, valsOf]
theorem vals_len (n : ByteArray) (p : AField → Bool) (l : List AField) (k : Nat) : (valsOf n p (l.take k)).length ≤ l.length := by
  rw [valsOf, List.length_map]
  exact Nat.le_trans (List.length_filter_le _ _) (by simp; omega)
/-- The values, as the law says. -/
def valuesR (l : List AField) (body n : ByteArray) : List ByteArray := if msgFault l body = 0 then valsOf n (fun f => isV f.name n) l else []
set_option maxHeartbeats 1000000 in
set_option maxRecDepth 100000 in
theorem letValues_calls (A : Option Addr) (c : Nat) (l : List AField) (body n : ByteArray) (m : Int) (w : World) (hr : Kd.C kAField w A l.length l) (hll : l.length ≤ 1048576) (hl : (showL l).length ≤ 4000000000000) (hs : ∀ x ∈ l, x.name.size ≤ 1048576 ∧ x.value.size ≤ 1048576) (hb : body.size ≤ 1048576) (hn : n.size ≤ 1048576) (hm : w.cell? ⟨0, 0, none⟩ = some (.int .i64 m)) (hg : 0 < w.heap.size) :
    Calls Tryd.prog 31 #[.agg #[.slice A l.length c, .string body], .string n] w fun e w' => ∃ v : Value, e = .returned (.tuple #[v, .int .i64 (msgFault l body)]) ∧ Kd.R Kd.string 9 w' w.heap.size (fun _ => True) v (valuesR l body n) ∧ Below w.heap.size w w' := by
  have H1 := fun w hr hm hg => letCheck_calls A c l body m w hr hl hs hb hm hg
  have HM := fun k (hk : k < l.length) w => matchIs_calls l[k].name n w (hs _ (List.getElem_mem hk)).1 hn
  have hsn := fun k hk => vals_snoc n (fun f => isV f.name n) l k hk
  have hsl := fun k => vals_len n (fun f => isV f.name n) l k
  have h0 : valsOf n (fun f => isV f.name n) (l.take 0) = [] := by rw [List.take_zero]; rfl
  unfold valuesR
  generalize msgFault l body = r at *
  generalize valsOf n (fun f => isV f.name n) = V at *
  have H1 := Lib.hid H1
  have HM := Lib.hid HM
  have hsn := Lib.hid hsn
  have hsl := Lib.hid hsl
  by_cases h : r = 0
  · subst h
    rw [if_pos rfl]
    go_enter Tryd.func31, Tryd.ntmps31
    go_wp2_with fail
    refine (H1.out _ (Kd.C_below hr (by repeat (first | exact Below.refl _ _ | apply below_alloc | apply pw_below_drewN | apply below_drew1 | (refine Below.setCell ?_ (by first | (simp; done) | (simp; omega) | omega) _) ))) (cell_below (B := w.heap.size) (by repeat (first | exact Below.refl _ _ | apply below_alloc | apply pw_below_drewN | apply below_drew1 | (refine Below.setCell ?_ (by first | (simp; done) | (simp; omega) | omega) _) )) hm hg) (Nat.lt_of_lt_of_le hg (Below.size (show Below w.heap.size w _ from (by repeat (first | exact Below.refl _ _ | apply below_alloc | apply pw_below_drewN | apply below_drew1 | (refine Below.setCell ?_ (by first | (simp; done) | (simp; omega) | omega) _) )))))).mono ?_
    rintro e w1 ⟨rfl, hb1⟩
    obtain ⟨hc_w1, hf_w1⟩ := bcell hb1
    have s_ := hb1.size
    (try simp at s_)
    (first | (have : w.heap.size < w1.heap.size := by omega) | skip)
    have : w.heap.size ≤ w1.heap.size := by omega
    clear s_
    have : w1.cell? ⟨w.heap.size, 0, none⟩ = some (.slice A l.length c) := (by rw [hc_w1 _ _ (by first | omega | (simp; done) | (simp; omega))]; first | (simp; done) | (simp [*]; done) | assumption | (simp [go_sem, *]; done)); have : w1.frozen? ⟨w.heap.size, 0, none⟩ = false := (by rw [hf_w1 _ _ (by first | omega | (simp; done) | (simp; omega))]; first | (simp; done) | (simp [*]; done) | assumption | (simp [go_sem, *]; done)); have : w1.cell? ⟨w.heap.size, 1, none⟩ = some (.string body) := (by rw [hc_w1 _ _ (by first | omega | (simp; done) | (simp; omega))]; first | (simp; done) | (simp [*]; done) | assumption | (simp [go_sem, *]; done)); have : w1.frozen? ⟨w.heap.size, 1, none⟩ = false := (by rw [hf_w1 _ _ (by first | omega | (simp; done) | (simp; omega))]; first | (simp; done) | (simp [*]; done) | assumption | (simp [go_sem, *]; done))
    go_wp2_with fail
    go_loopw [7, 20] (fun v i wr => ∃ k : Nat, k ≤ l.length ∧ i = .int .i64 k ∧ Kd.R Kd.string 9 wr (w.heap.size + 1) (fun _ => True) v (V (l.take k)) ∧ Below (w.heap.size + 1) w1 wr) (fun _ i _ => l.length - (intOf i).toNat)
    case atStart => exact ⟨0, Nat.zero_le _, rfl, by rw [h0]; exact Kd.R_nil _ _ _ _ _, Below.refl _ _⟩
    case round =>
      obtain ⟨k, hk, rfl, hR, hB⟩ := hrel
      obtain ⟨hcb, hfb⟩ := bcellB hB
      have hBw : Below w.heap.size w wr := Below.trans (by repeat (first | exact Below.refl _ _ | apply below_alloc | apply pw_below_drewN | apply below_drew1 | (refine Below.setCell ?_ (by first | (simp; done) | (simp; omega) | omega) _) | (refine below_then ?_ (by first | (simp; done) | (simp; omega) | omega) hb1))) (Below.mono hB (by omega))
      have hzw : w.heap.size + 1 ≤ wr.heap.size := by have := hB.size; omega
      have m0 : wr.cell? ⟨w.heap.size, 0, none⟩ = some (.slice A l.length c) := by rw [hcb _ _ (by omega)]; assumption
      clear hcb hfb
      by_cases hlt : k < l.length
      · obtain ⟨ad, e1, hx0, hxj⟩ := flat_at (Kd.C_below hr hBw) k hlt
        subst e1
        have q0 := hx0 _ rfl; have q1 := hxj 1 _ (by decide) rfl
        clear hx0 hxj
        have i0 : (0 : Int) ≤ (k : Int) := by omega
        have i1 : (k : Int) < (l.length : Int) := by omega
        have hMk := fun w => HM.out k hlt w
        have hnx := hsn.out k hlt
        have hlk := hsl.out k
        generalize l[k] = x at *
        generalize V (l.take k) = acc at *
        generalize hV2 : V (l.take (k + 1)) = acc2 at *
        cases hiv : isV x.name n with
        | true =>
          rw [hiv] at hMk hnx
          rw [if_pos rfl] at hnx
          subst hnx
          have hMk := Lib.hid hMk
          go_wp2_with fail
          refine (hMk.out _).mono ?_
          rintro e w2 ⟨rfl, hb2⟩
          have hc2 := bcell hb2
          have hBw2 : Below w.heap.size w w2 := (by repeat (first | exact Below.refl _ _ | apply below_alloc | apply pw_below_drewN | apply below_drew1 | (refine Below.setCell ?_ (by first | (simp; done) | (simp; omega) | omega) _) | (refine below_then ?_ (by first | (simp; done) | (simp; omega) | omega) hb2) | exact hBw))
          have hB2 : Below (w.heap.size + 1) w1 w2 := hB.trans ((Below.alloc (Below.refl _ _) (by omega) _).trans (hb2.mono (by simp; omega)))
          have hz2 : wr.heap.size < w2.heap.size := by have := hb2.size; simp at this; omega
          have t1 : w2.cell? ⟨wr.heap.size, 1, none⟩ = some (.string x.value) := by rw [hc2.1 _ _ (by simp)]; simp
          have hR2 : Kd.R Kd.string 9 w2 (w.heap.size + 1) (fun _ => True) u7 acc := Kd.R_below hR ((Below.alloc (Below.refl _ _) (Nat.le_refl _) _).trans (hb2.mono (by simp)))
          clear hc2
          go_wp2_with (at_builtin; refine snoc_list rowStr (w.heap.size + 1) rfl _ _ rfl u7 acc x.value [.string x.value] rfl rfl rfl hR2 (by omega) (by omega) ?_; intro v1 w3 hR3 hb3 hg3)
          go_roundw
          case rel => exact ⟨k + 1, by omega, by go_num, by rw [hV2]; exact hR3, hB2.trans hb3⟩
          case measure => simp [intOf]; omega
        | false =>
          rw [hiv] at hMk hnx
          rw [if_neg (by simp)] at hnx
          subst hnx
          have hMk := Lib.hid hMk
          go_wp2_with fail
          refine (hMk.out _).mono ?_
          rintro e w2 ⟨rfl, hb2⟩
          have hB2 : Below (w.heap.size + 1) w1 w2 := hB.trans ((Below.alloc (Below.refl _ _) (by omega) _).trans (hb2.mono (by simp; omega)))
          have hR2 : Kd.R Kd.string 9 w2 (w.heap.size + 1) (fun _ => True) u7 acc2 := Kd.R_below hR ((Below.alloc (Below.refl _ _) (Nat.le_refl _) _).trans (hb2.mono (by simp)))
          go_wp2_with fail
          go_roundw
          case rel => exact ⟨k + 1, by omega, by go_num, by rw [hV2]; exact hR2, hB2⟩
          case measure => simp [intOf]; omega
      · obtain rfl : k = l.length := by omega
        rw [List.take_length] at hR
        go_wp2
        refine bodyPost_ret (v := .tuple #[u7, .int .i64 0]) (by simp [results, Tryd.results31, go_sem, *]) rfl ⟨_, rfl, Kd.R_lower hR (by omega), (by repeat (first | exact Below.refl _ _ | apply below_alloc | apply pw_below_drewN | apply below_drew1 | (refine Below.setCell ?_ (by first | (simp; done) | (simp; omega) | omega) _) | exact hBw))⟩
  · rw [if_neg h]
    have hq : (r == 0) = false := by rw [beq_eq_false_iff_ne]; exact h
    go_enter Tryd.func31, Tryd.ntmps31
    go_wp2_with fail
    refine (H1.out _ (Kd.C_below hr (by repeat (first | exact Below.refl _ _ | apply below_alloc | apply pw_below_drewN | apply below_drew1 | (refine Below.setCell ?_ (by first | (simp; done) | (simp; omega) | omega) _) ))) (cell_below (B := w.heap.size) (by repeat (first | exact Below.refl _ _ | apply below_alloc | apply pw_below_drewN | apply below_drew1 | (refine Below.setCell ?_ (by first | (simp; done) | (simp; omega) | omega) _) )) hm hg) (Nat.lt_of_lt_of_le hg (Below.size (show Below w.heap.size w _ from (by repeat (first | exact Below.refl _ _ | apply below_alloc | apply pw_below_drewN | apply below_drew1 | (refine Below.setCell ?_ (by first | (simp; done) | (simp; omega) | omega) _) )))))).mono ?_
    rintro e w1 ⟨rfl, hb1⟩
    go_wp2_with fail
    refine bodyPost_ret (v := .tuple #[.slice none 0 0, .int .i64 r]) (by simp [results, Tryd.results31, go_sem, *]) rfl ⟨_, rfl, Kd.R_nil _ _ _ _ _, (by repeat (first | exact Below.refl _ _ | apply below_alloc | apply pw_below_drewN | apply below_drew1 | (refine Below.setCell ?_ (by first | (simp; done) | (simp; omega) | omega) _) | (refine below_then ?_ (by first | (simp; done) | (simp; omega) | omega) hb1)))⟩
end Go.Proofs.YtpeenmbonhijmaaDoor.H
