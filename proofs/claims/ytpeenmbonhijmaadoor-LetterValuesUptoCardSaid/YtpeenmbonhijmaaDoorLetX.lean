/- Letters: values of a name: the reference's ValuesOf, sameTexts, the law's walk. -/
import Derived.Test.YtpeenmbonhijmaaDoorLetW
namespace Go.Proofs.YtpeenmbonhijmaaDoor.H
open Go.RowKit Go.Proofs.YtpeenmbonhijmaaDoorW.PrintWords Go.Proofs.YtpeenmbonhijmaaDoorW.PrintLast Go.Proofs.YtpeenmbonhijmaaDoorW.PrintMore Go.Proofs.YtpeenmbonhijmaaDoor.U
set_option linter.unusedVariables false
set_option linter.unusedSimpArgs false
theorem name_le (l : List AField) (f : AField) (h : f ∈ l) : f.name.size ≤ (showL l).length := by
  induction l with
  | nil => cases h
  | cons x l ih =>
    have h3 : (showL (x :: l)).length = (lineT x).length + (showL l).length := by simp [showL]
    rcases List.mem_cons.1 h with rfl | h
    · have : (lineT f).length = f.name.size + f.value.size + 4 := by simp [lineT]; omega
      omega
    · have := ih h; omega
theorem fault_size {l : List AField} {body : ByteArray} (h : msgFault l body = 0) : (showL l).length ≤ 2000 := by
  have hs := showT_size l body
  unfold msgFault at h
  split at h
  · cases h
  · split at h
    · split at h
      · cases h
      · omega
    · cases h
theorem values_big {l : List AField} {n : ByteArray} (h : 100 < n.size) : valsOf n (fun f => isV f.name n) l = [] := by
  rw [valsOf, List.filter_eq_nil_iff.2, List.map_nil]
  intro f _
  rw [isV, if_neg (by omega)]; simp
theorem values_small {l : List AField} {body n : ByteArray} (h0 : msgFault l body = 0) (h : n.size ≤ 100) : valsOf n (fun f => isV f.name n) l = valsOf n (fun f => sameLow f.name n) l := by
  rw [valsOf, valsOf, List.filter_congr]
  intro f hf
  have h1 := name_le l f hf
  have h2 := fault_size h0
  simp only [isV]
  rw [if_pos (by omega)]
set_option maxHeartbeats 1000000 in
set_option maxRecDepth 100000 in
theorem refValues_calls (A : Option Addr) (c : Nat) (l : List AField) (body n : ByteArray) (w : World) (hr : Kd.C kAField w A l.length l) (hll : l.length ≤ 1048576) (hl : (showL l).length ≤ 4000000000000) (hs : ∀ x ∈ l, x.name.size ≤ 1048576 ∧ x.value.size ≤ 1048576) (hb : body.size ≤ 1048576) (hn : n.size ≤ 1048576) :
    Calls Tryd.prog 32 #[.agg #[.slice A l.length c, .string body], .string n] w fun e w' => ∃ v : Value, e = .returned (.tuple #[v, .int .i64 (msgFault l body)]) ∧ Kd.R Kd.string 9 w' w.heap.size (fun _ => True) v (valuesR l body n) ∧ Below w.heap.size w w' := by
  have H1 := fun w hr => refMsg_calls A c l body w hr hl hs hb
  have HV := fun w hr => valuesOf_calls A c l body n w hr hll hs hn
  have hbig := fun h => values_big (l := l) (n := n) h
  have hsm := fun h0 h => values_small (l := l) (body := body) (n := n) h0 h
  unfold valuesR
  generalize msgFault l body = r at *
  generalize valsOf n (fun f => isV f.name n) l = V1 at *
  generalize valsOf n (fun f => sameLow f.name n) l = V2 at *
  have H1 := Lib.hid H1
  have HV := Lib.hid HV
  by_cases h : r = 0
  · subst h
    rw [if_pos rfl]
    by_cases hz : 100 < n.size
    · obtain rfl := hbig hz
      have i1 : (100 : Int) < n.size := by omega
      clear hbig hsm
      go_enter Tryd.func32, Tryd.ntmps32
      go_wp2_with fail
      refine (H1.out _ (Kd.C_below hr (by repeat (first | exact Below.refl _ _ | apply below_alloc | apply pw_below_drewN | apply below_drew1 | (refine Below.setCell ?_ (by first | (simp; done) | (simp; omega) | omega) _) )))).mono ?_
      rintro e w1 ⟨rfl, hb1⟩
      go_wp2_with fail
      refine bodyPost_ret (v := .tuple #[.slice none 0 0, .int .i64 0]) (by simp [results, Tryd.results32, go_sem, *]) rfl ⟨_, rfl, Kd.R_nil _ _ _ _ _, (by repeat (first | exact Below.refl _ _ | apply below_alloc | apply pw_below_drewN | apply below_drew1 | (refine Below.setCell ?_ (by first | (simp; done) | (simp; omega) | omega) _) | (refine below_then ?_ (by first | (simp; done) | (simp; omega) | omega) hb1)))⟩
    · obtain rfl := hsm rfl (by omega)
      have i1 : ¬ (100 : Int) < n.size := by omega
      clear hbig hsm
      go_enter Tryd.func32, Tryd.ntmps32
      go_wp2_with fail
      refine (H1.out _ (Kd.C_below hr (by repeat (first | exact Below.refl _ _ | apply below_alloc | apply pw_below_drewN | apply below_drew1 | (refine Below.setCell ?_ (by first | (simp; done) | (simp; omega) | omega) _) )))).mono ?_
      rintro e w1 ⟨rfl, hb1⟩
      obtain ⟨hc_w1, hf_w1⟩ := bcell hb1
      have s_ := hb1.size
      (try simp at s_)
      (first | (have : w.heap.size < w1.heap.size := by omega) | skip)
      have : w.heap.size ≤ w1.heap.size := by omega
      clear s_
      have : w1.cell? ⟨w.heap.size, 0, none⟩ = some (.slice A l.length c) := (by rw [hc_w1 _ _ (by first | omega | (simp; done) | (simp; omega))]; first | (simp; done) | (simp [*]; done) | assumption | (simp [go_sem, *]; done)); have : w1.frozen? ⟨w.heap.size, 0, none⟩ = false := (by rw [hf_w1 _ _ (by first | omega | (simp; done) | (simp; omega))]; first | (simp; done) | (simp [*]; done) | assumption | (simp [go_sem, *]; done)); have : w1.cell? ⟨w.heap.size, 1, none⟩ = some (.string body) := (by rw [hc_w1 _ _ (by first | omega | (simp; done) | (simp; omega))]; first | (simp; done) | (simp [*]; done) | assumption | (simp [go_sem, *]; done)); have : w1.frozen? ⟨w.heap.size, 1, none⟩ = false := (by rw [hf_w1 _ _ (by first | omega | (simp; done) | (simp; omega))]; first | (simp; done) | (simp [*]; done) | assumption | (simp [go_sem, *]; done))
      go_wp2_with fail
      refine (HV.out _ (Kd.C_below hr (by repeat (first | exact Below.refl _ _ | apply below_alloc | apply pw_below_drewN | apply below_drew1 | (refine Below.setCell ?_ (by first | (simp; done) | (simp; omega) | omega) _) | (refine below_then ?_ (by first | (simp; done) | (simp; omega) | omega) hb1))))).mono ?_
      rintro e w2 ⟨v, rfl, hR, hb2⟩
      obtain ⟨A2, c2, rfl, _, _⟩ := C_of hR
      go_wp2_with fail
      refine bodyPost_ret (v := .tuple #[.slice A2 V1.length c2, .int .i64 0]) (by simp [results, Tryd.results32, go_sem, *]) rfl ⟨_, rfl, Kd.R_lower hR (by omega), (by repeat (first | exact Below.refl _ _ | apply below_alloc | apply pw_below_drewN | apply below_drew1 | (refine Below.setCell ?_ (by first | (simp; done) | (simp; omega) | omega) _) | (refine below_then ?_ (by first | (simp; done) | (simp; omega) | omega) hb2) | (refine below_then ?_ (by first | (simp; done) | (simp; omega) | omega) hb1)))⟩
  · rw [if_neg h]
    have hq : (r == 0) = false := by rw [beq_eq_false_iff_ne]; exact h
    go_enter Tryd.func32, Tryd.ntmps32
    go_wp2_with fail
    refine (H1.out _ (Kd.C_below hr (by repeat (first | exact Below.refl _ _ | apply below_alloc | apply pw_below_drewN | apply below_drew1 | (refine Below.setCell ?_ (by first | (simp; done) | (simp; omega) | omega) _) )))).mono ?_
    rintro e w1 ⟨rfl, hb1⟩
    go_wp2_with fail
    refine bodyPost_ret (v := .tuple #[.slice none 0 0, .int .i64 r]) (by simp [results, Tryd.results32, go_sem, *]) rfl ⟨_, rfl, Kd.R_nil _ _ _ _ _, (by repeat (first | exact Below.refl _ _ | apply below_alloc | apply pw_below_drewN | apply below_drew1 | (refine Below.setCell ?_ (by first | (simp; done) | (simp; omega) | omega) _) | (refine below_then ?_ (by first | (simp; done) | (simp; omega) | omega) hb1)))⟩
set_option maxHeartbeats 1000000 in
set_option maxRecDepth 100000 in
theorem sameTexts_calls (A : Option Addr) (c : Nat) (A2 : Option Addr) (c2 : Nat) (l : List ByteArray) (w : World) (hr : Kd.C Kd.string w A l.length l) (hr2 : Kd.C Kd.string w A2 l.length l) :
    Calls Tryd.prog 33 #[.slice A l.length c, .slice A2 l.length c2] w fun e w' => e = .returned (.bool true) ∧ Below w.heap.size w w' := by
  have h63 := hr.2.1
  go_enter Tryd.func33, Tryd.ntmps33
  go_wp2
  go_loopw [5] (fun i wr => ∃ k : Nat, k ≤ l.length ∧ i = .int .i64 k ∧ ∃ q, wr = w.drewN q) (fun i _ => l.length - (intOf i).toNat)
  case atStart => exact ⟨0, Nat.zero_le _, rfl, 0, rfl⟩
  case round =>
    obtain ⟨k, hk, rfl, q, rfl⟩ := hrel
    by_cases hlt : k < l.length
    · obtain ⟨ad, e1, q0⟩ := string_at hr k hlt
      obtain ⟨ad2, e2, r0⟩ := string_at hr2 k hlt
      subst e1 e2
      generalize l[k] = x at *
      have i0 : (0 : Int) ≤ (k : Int) := by omega
      have i1 : (k : Int) < (l.length : Int) := by omega
      go_wp2
      go_quiet (fail)
      go_wp2
      go_roundw
      case rel => exact ⟨k + 1, by omega, by go_num, _, rfl⟩
      case measure => simp [intOf]; omega
    · obtain rfl : k = l.length := by omega
      go_wp2
      go_ret
      exact ⟨rfl, by first | exact Below.refl _ _ | exact pw_below_drewN (Below.refl _ _) _⟩
set_option maxHeartbeats 1000000 in
set_option maxRecDepth 100000 in
theorem letterValues_walk (A : Option Addr) (c : Nat) (l : List AField) (body n : ByteArray) (m : Int) (w : World) (hr : Kd.C kAField w A l.length l) (hll : l.length ≤ 1048576) (hs : ∀ x ∈ l, x.name.size ≤ 1048576 ∧ x.value.size ≤ 1048576) (hb : body.size ≤ 1048576) (hn : n.size ≤ 1048576) (hm : w.cell? ⟨0, 0, none⟩ = some (.int .i64 m)) (hg : 0 < w.heap.size) :
    Calls Tryd.prog 9 #[.agg #[.slice A l.length c, .string body], .string n] w fun e w' => e = .returned (.bool true) ∧ Below w.heap.size w w' := by
  have hl : (showL l).length ≤ 4000000000000 := by have := showL_bound l hs; omega
  have H1 := fun A c w hr hm hg => letValues_calls A c l body n m w hr hll hl hs hb hn hm hg
  have H2 := fun w hr => refValues_calls A c l body n w hr hll hl hs hb hn
  have H0 := fun w hr => messages_calls A c l body w hr (by omega)
  generalize msgFault l body = r at *
  generalize valuesR l body n = V at *
  have H3 := fun A A2 c c2 w hr hr2 => sameTexts_calls A c A2 c2 V w hr hr2
  have H1 := Lib.hid H1
  have H2 := Lib.hid H2
  have H0 := Lib.hid H0
  have H3 := Lib.hid H3
  go_enter Tryd.func9, Tryd.ntmps9
  go_wp2_with fail
  refine (H0.out _ (Kd.C_below hr (by repeat (first | exact Below.refl _ _ | apply below_alloc | apply pw_below_drewN | apply below_drew1 | (refine Below.setCell ?_ (by first | (simp; done) | (simp; omega) | omega) _) )))).mono ?_
  rintro e w1 ⟨v, rfl, hR, hb1⟩
  obtain ⟨hc_w1, hf_w1⟩ := bcell hb1
  have s_ := hb1.size
  (try simp at s_)
  (first | (have : w.heap.size < w1.heap.size := by omega) | skip)
  have : w.heap.size ≤ w1.heap.size := by omega
  clear s_
  have : w1.cell? ⟨w.heap.size, 0, none⟩ = some (.slice A l.length c) := (by rw [hc_w1 _ _ (by first | omega | (simp; done) | (simp; omega))]; first | (simp; done) | (simp [*]; done) | assumption | (simp [go_sem, *]; done)); have : w1.frozen? ⟨w.heap.size, 0, none⟩ = false := (by rw [hf_w1 _ _ (by first | omega | (simp; done) | (simp; omega))]; first | (simp; done) | (simp [*]; done) | assumption | (simp [go_sem, *]; done)); have : w1.cell? ⟨w.heap.size, 1, none⟩ = some (.string body) := (by rw [hc_w1 _ _ (by first | omega | (simp; done) | (simp; omega))]; first | (simp; done) | (simp [*]; done) | assumption | (simp [go_sem, *]; done)); have : w1.frozen? ⟨w.heap.size, 1, none⟩ = false := (by rw [hf_w1 _ _ (by first | omega | (simp; done) | (simp; omega))]; first | (simp; done) | (simp [*]; done) | assumption | (simp [go_sem, *]; done))
  obtain ⟨A1, c1, rfl, hlc1, hr1⟩ := C_of hR
  go_wp2_with fail
  refine (H1.out A1 c1 _ hr1 (cell_below (B := w.heap.size) (by repeat (first | exact Below.refl _ _ | apply below_alloc | apply pw_below_drewN | apply below_drew1 | (refine Below.setCell ?_ (by first | (simp; done) | (simp; omega) | omega) _) | (refine below_then ?_ (by first | (simp; done) | (simp; omega) | omega) hb1))) hm hg) (Nat.lt_of_lt_of_le hg (Below.size (show Below w.heap.size w _ from (by repeat (first | exact Below.refl _ _ | apply below_alloc | apply pw_below_drewN | apply below_drew1 | (refine Below.setCell ?_ (by first | (simp; done) | (simp; omega) | omega) _) | (refine below_then ?_ (by first | (simp; done) | (simp; omega) | omega) hb1))))))).mono ?_
  rintro e w2 ⟨v2, rfl, hR2, hb2⟩
  obtain ⟨hc_w2, hf_w2⟩ := bcell hb2
  have s_ := hb2.size
  (try simp at s_)
  (first | (have : w.heap.size < w2.heap.size := by omega) | skip)
  have : w.heap.size ≤ w2.heap.size := by omega
  (first | (have : w1.heap.size < w2.heap.size := by omega) | skip)
  have : w1.heap.size ≤ w2.heap.size := by omega
  clear s_
  have : w2.cell? ⟨w.heap.size, 0, none⟩ = some (.slice A l.length c) := (by rw [hc_w2 _ _ (by first | omega | (simp; done) | (simp; omega))]; first | (simp; done) | (simp [*]; done) | assumption | (simp [go_sem, *]; done)); have : w2.frozen? ⟨w.heap.size, 0, none⟩ = false := (by rw [hf_w2 _ _ (by first | omega | (simp; done) | (simp; omega))]; first | (simp; done) | (simp [*]; done) | assumption | (simp [go_sem, *]; done)); have : w2.cell? ⟨w.heap.size, 1, none⟩ = some (.string body) := (by rw [hc_w2 _ _ (by first | omega | (simp; done) | (simp; omega))]; first | (simp; done) | (simp [*]; done) | assumption | (simp [go_sem, *]; done)); have : w2.frozen? ⟨w.heap.size, 1, none⟩ = false := (by rw [hf_w2 _ _ (by first | omega | (simp; done) | (simp; omega))]; first | (simp; done) | (simp [*]; done) | assumption | (simp [go_sem, *]; done))
  obtain ⟨A2, c2, rfl, hlc2, hr2⟩ := C_of hR2
  go_wp2_with fail
  refine (H2.out _ (Kd.C_below hr (by repeat (first | exact Below.refl _ _ | apply below_alloc | apply pw_below_drewN | apply below_drew1 | (refine Below.setCell ?_ (by first | (simp; done) | (simp; omega) | omega) _) | (refine below_then ?_ (by first | (simp; done) | (simp; omega) | omega) hb2) | (refine below_then ?_ (by first | (simp; done) | (simp; omega) | omega) hb1))))).mono ?_
  rintro e w3 ⟨v3, rfl, hR3, hb3⟩
  obtain ⟨A3, c3, rfl, hlc3, hr3⟩ := C_of hR3
  go_wp2_with fail
  refine (H3.out A2 A3 c2 c3 _ (Kd.C_below hr2 hb3) hr3).mono ?_
  rintro e w4 ⟨rfl, hb4⟩
  have hz3 := hb3.size
  go_wp2_with fail
  go_ret
  exact ⟨(by first | rfl | (simp; done) | (simp [*]; done) | (rw [if_pos (by omega)]; first | rfl | (simp; done)) | (rw [if_neg (by omega)]; first | rfl | (simp; done)) | (simp; omega)), (by repeat (first | exact Below.refl _ _ | apply below_alloc | apply pw_below_drewN | apply below_drew1 | (refine Below.setCell ?_ (by first | (simp; done) | (simp; omega) | omega) _) | (refine below_then ?_ (by first | (simp; done) | (simp; omega) | omega) hb4) | (refine below_then ?_ (by first | (simp; done) | (simp; omega) | omega) hb3) | (refine below_then ?_ (by first | (simp; done) | (simp; omega) | omega) hb2) | (refine below_then ?_ (by first | (simp; done) | (simp; omega) | omega) hb1)))⟩
end Go.Proofs.YtpeenmbonhijmaaDoor.H
