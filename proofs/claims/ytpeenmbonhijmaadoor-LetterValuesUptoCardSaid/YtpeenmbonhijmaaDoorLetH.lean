/- Letters: the walks of the laws LetterChecks and LetterShows. -/
import Derived.Test.YtpeenmbonhijmaaDoorLetG
import Derived.Deep.QuietTactic
namespace Go.Proofs.YtpeenmbonhijmaaDoor.H
open Go.RowKit Go.Proofs.YtpeenmbonhijmaaDoorW.PrintWords Go.Proofs.YtpeenmbonhijmaaDoorW.PrintLast Go.Proofs.YtpeenmbonhijmaaDoorW.PrintMore Go.Proofs.YtpeenmbonhijmaaDoor.U
set_option linter.unusedVariables false
set_option linter.unusedSimpArgs false
theorem showL_bound (l : List AField) (hs : ∀ x ∈ l, x.name.size ≤ 1048576 ∧ x.value.size ≤ 1048576) : (showL l).length ≤ l.length * 2097156 := by
  induction l with
  | nil => simp [showL]
  | cons x l ih =>
    have h1 := hs x (by simp)
    have h2 := ih (fun y hy => hs y (by simp [hy]))
    have h3 : (showL (x :: l)).length = (lineT x).length + (showL l).length := by simp [showL]
    have h4 : (lineT x).length = x.name.size + x.value.size + 4 := by simp [lineT]; omega
    rw [h3, h4, List.length_cons]; omega
set_option maxHeartbeats 1000000 in
set_option maxRecDepth 100000 in
theorem letterChecks_walk (A : Option Addr) (c : Nat) (l : List AField) (body : ByteArray) (m : Int) (w : World) (hr : Kd.C kAField w A l.length l) (hll : l.length ≤ 1048576) (hs : ∀ x ∈ l, x.name.size ≤ 1048576 ∧ x.value.size ≤ 1048576) (hb : body.size ≤ 1048576) (hm : w.cell? ⟨0, 0, none⟩ = some (.int .i64 m)) (hg : 0 < w.heap.size) :
    Calls Tryd.prog 7 #[.agg #[.slice A l.length c, .string body]] w fun e w' => e = .returned (.bool true) ∧ Below w.heap.size w w' := by
  have hl : (showL l).length ≤ 4000000000000 := by have := showL_bound l hs; omega
  have H1 := fun A c w hr hm hg => letCheck_calls A c l body m w hr hl hs hb hm hg
  have H2 := fun w hr => refMsg_calls A c l body w hr hl hs hb
  have H0 := fun w hr => messages_calls A c l body w hr (by omega)
  have H3 := fun A A2 c c2 w hr hr2 => sameMessage_calls A c A2 c2 l body w hr hr2
  generalize msgFault l body = r at *
  have H1 := Lib.hid H1
  have H2 := Lib.hid H2
  have H0 := Lib.hid H0
  have H3 := Lib.hid H3
  go_enter Tryd.func7, Tryd.ntmps7
  go_wp2_with fail
  refine (H0.out _ (Kd.C_below hr (by repeat (first | exact Below.refl _ _ | apply below_alloc | apply pw_below_drewN | apply below_drew1 | (refine Below.setCell ?_ (by first | (simp; done) | (simp; omega) | omega) _) )))).mono ?_
  rintro e w1 ⟨v, rfl, hR, hb1⟩
  obtain ⟨hc_w1, hf_w1⟩ := bcell hb1
  have s_ := hb1.size
  (try simp at s_)
  (first | (have : w.heap.size < w1.heap.size := by omega) | skip)
  have : w.heap.size ≤ w1.heap.size := by omega
  clear s_
  have : w1.cell? ⟨w.heap.size, 0, none⟩ = some (.slice A l.length c) := (by rw [hc_w1 _ _ (by first | omega | (simp; done) | (simp; omega))]; first | (simp; done) | (simp [*]; done) | assumption | (simp [go_sem, *]; done)); have : w1.frozen? ⟨w.heap.size, 0, none⟩ = false := (by rw [hf_w1 _ _ (by first | omega | (simp; done) | (simp; omega))]; first | (simp; done) | (simp [*]; done) | assumption | (simp [go_sem, *]; done)); have : w1.cell? ⟨w.heap.size, 1, none⟩ = some (.string body) := (by rw [hc_w1 _ _ (by first | omega | (simp; done) | (simp; omega))]; first | (simp; done) | (simp [*]; done) | assumption | (simp [go_sem, *]; done)); have : w1.frozen? ⟨w.heap.size, 1, none⟩ = false := (by rw [hf_w1 _ _ (by first | omega | (simp; done) | (simp; omega))]; first | (simp; done) | (simp [*]; done) | assumption | (simp [go_sem, *]; done))
  obtain ⟨A1, c1, rfl, hlc1, hr1⟩ := C_of hR
  go_wp2_with fail
  refine (H1.out A1 c1 _ (Kd.C_below hr1 ((Below.refl _ _).alloc (Nat.le_refl _) _)) (cell_below (B := w.heap.size) (by repeat (first | exact Below.refl _ _ | apply below_alloc | apply pw_below_drewN | apply below_drew1 | (refine Below.setCell ?_ (by first | (simp; done) | (simp; omega) | omega) _) | (refine below_then ?_ (by first | (simp; done) | (simp; omega) | omega) hb1))) hm hg) (Nat.lt_of_lt_of_le hg (Below.size (show Below w.heap.size w _ from (by repeat (first | exact Below.refl _ _ | apply below_alloc | apply pw_below_drewN | apply below_drew1 | (refine Below.setCell ?_ (by first | (simp; done) | (simp; omega) | omega) _) | (refine below_then ?_ (by first | (simp; done) | (simp; omega) | omega) hb1))))))).mono ?_
  rintro e w2 ⟨rfl, hb2⟩
  obtain ⟨hc_w2, hf_w2⟩ := bcell hb2
  have s_ := hb2.size
  (try simp at s_)
  (first | (have : w.heap.size < w2.heap.size := by omega) | skip)
  have : w.heap.size ≤ w2.heap.size := by omega
  (first | (have : w1.heap.size < w2.heap.size := by omega) | skip)
  have : w1.heap.size ≤ w2.heap.size := by omega
  clear s_
  have : w2.cell? ⟨w.heap.size, 0, none⟩ = some (.slice A l.length c) := (by rw [hc_w2 _ _ (by first | omega | (simp; done) | (simp; omega))]; first | (simp; done) | (simp [*]; done) | assumption | (simp [go_sem, *]; done)); have : w2.frozen? ⟨w.heap.size, 0, none⟩ = false := (by rw [hf_w2 _ _ (by first | omega | (simp; done) | (simp; omega))]; first | (simp; done) | (simp [*]; done) | assumption | (simp [go_sem, *]; done)); have : w2.cell? ⟨w.heap.size, 1, none⟩ = some (.string body) := (by rw [hc_w2 _ _ (by first | omega | (simp; done) | (simp; omega))]; first | (simp; done) | (simp [*]; done) | assumption | (simp [go_sem, *]; done)); have : w2.frozen? ⟨w.heap.size, 1, none⟩ = false := (by rw [hf_w2 _ _ (by first | omega | (simp; done) | (simp; omega))]; first | (simp; done) | (simp [*]; done) | assumption | (simp [go_sem, *]; done))
  have : w2.cell? ⟨w1.heap.size, 0, none⟩ = some (.slice A1 l.length c1) := (by rw [hc_w2 _ _ (by first | omega | (simp; done) | (simp; omega))]; first | (simp; done) | (simp [*]; done) | assumption | (simp [go_sem, *]; done)); have : w2.frozen? ⟨w1.heap.size, 0, none⟩ = false := (by rw [hf_w2 _ _ (by first | omega | (simp; done) | (simp; omega))]; first | (simp; done) | (simp [*]; done) | assumption | (simp [go_sem, *]; done)); have : w2.cell? ⟨w1.heap.size, 1, none⟩ = some (.string body) := (by rw [hc_w2 _ _ (by first | omega | (simp; done) | (simp; omega))]; first | (simp; done) | (simp [*]; done) | assumption | (simp [go_sem, *]; done)); have : w2.frozen? ⟨w1.heap.size, 1, none⟩ = false := (by rw [hf_w2 _ _ (by first | omega | (simp; done) | (simp; omega))]; first | (simp; done) | (simp [*]; done) | assumption | (simp [go_sem, *]; done))
  go_wp2_with fail
  refine (H2.out _ (Kd.C_below hr (by repeat (first | exact Below.refl _ _ | apply below_alloc | apply pw_below_drewN | apply below_drew1 | (refine Below.setCell ?_ (by first | (simp; done) | (simp; omega) | omega) _) | (refine below_then ?_ (by first | (simp; done) | (simp; omega) | omega) hb2) | (refine below_then ?_ (by first | (simp; done) | (simp; omega) | omega) hb1))))).mono ?_
  rintro e w3 ⟨rfl, hb3⟩
  obtain ⟨hc_w3, hf_w3⟩ := bcell hb3
  have s_ := hb3.size
  (try simp at s_)
  (first | (have : w.heap.size < w3.heap.size := by omega) | skip)
  have : w.heap.size ≤ w3.heap.size := by omega
  (first | (have : w1.heap.size < w3.heap.size := by omega) | skip)
  have : w1.heap.size ≤ w3.heap.size := by omega
  (first | (have : w2.heap.size < w3.heap.size := by omega) | skip)
  have : w2.heap.size ≤ w3.heap.size := by omega
  clear s_
  have : w3.cell? ⟨w.heap.size, 0, none⟩ = some (.slice A l.length c) := (by rw [hc_w3 _ _ (by first | omega | (simp; done) | (simp; omega))]; first | (simp; done) | (simp [*]; done) | assumption | (simp [go_sem, *]; done)); have : w3.frozen? ⟨w.heap.size, 0, none⟩ = false := (by rw [hf_w3 _ _ (by first | omega | (simp; done) | (simp; omega))]; first | (simp; done) | (simp [*]; done) | assumption | (simp [go_sem, *]; done)); have : w3.cell? ⟨w.heap.size, 1, none⟩ = some (.string body) := (by rw [hc_w3 _ _ (by first | omega | (simp; done) | (simp; omega))]; first | (simp; done) | (simp [*]; done) | assumption | (simp [go_sem, *]; done)); have : w3.frozen? ⟨w.heap.size, 1, none⟩ = false := (by rw [hf_w3 _ _ (by first | omega | (simp; done) | (simp; omega))]; first | (simp; done) | (simp [*]; done) | assumption | (simp [go_sem, *]; done))
  have : w3.cell? ⟨w1.heap.size, 0, none⟩ = some (.slice A1 l.length c1) := (by rw [hc_w3 _ _ (by first | omega | (simp; done) | (simp; omega))]; first | (simp; done) | (simp [*]; done) | assumption | (simp [go_sem, *]; done)); have : w3.frozen? ⟨w1.heap.size, 0, none⟩ = false := (by rw [hf_w3 _ _ (by first | omega | (simp; done) | (simp; omega))]; first | (simp; done) | (simp [*]; done) | assumption | (simp [go_sem, *]; done)); have : w3.cell? ⟨w1.heap.size, 1, none⟩ = some (.string body) := (by rw [hc_w3 _ _ (by first | omega | (simp; done) | (simp; omega))]; first | (simp; done) | (simp [*]; done) | assumption | (simp [go_sem, *]; done)); have : w3.frozen? ⟨w1.heap.size, 1, none⟩ = false := (by rw [hf_w3 _ _ (by first | omega | (simp; done) | (simp; omega))]; first | (simp; done) | (simp [*]; done) | assumption | (simp [go_sem, *]; done))
  go_wp2_with fail
  have hr3 : Kd.C kAField w3 A1 l.length l := Kd.C_below hr1 (Below.trans (Below.trans ((Below.refl _ _).alloc (Nat.le_refl _) _) (Below.mono hb2 (by simp))) (Below.mono hb3 (by omega)))
  refine (H3.out A1 A c1 c _ hr3 (Kd.C_below hr (by repeat (first | exact Below.refl _ _ | apply below_alloc | apply pw_below_drewN | apply below_drew1 | (refine Below.setCell ?_ (by first | (simp; done) | (simp; omega) | omega) _) | (refine below_then ?_ (by first | (simp; done) | (simp; omega) | omega) hb3) | (refine below_then ?_ (by first | (simp; done) | (simp; omega) | omega) hb2) | (refine below_then ?_ (by first | (simp; done) | (simp; omega) | omega) hb1))))).mono ?_
  rintro e w4 ⟨rfl, hb4⟩
  go_wp2_with fail
  go_ret
  exact ⟨(by first | rfl | (simp; done) | (simp [*]; done) | (rw [if_pos (by omega)]; first | rfl | (simp; done)) | (rw [if_neg (by omega)]; first | rfl | (simp; done)) | (simp; omega)), (by repeat (first | exact Below.refl _ _ | apply below_alloc | apply pw_below_drewN | apply below_drew1 | (refine Below.setCell ?_ (by first | (simp; done) | (simp; omega) | omega) _) | (refine below_then ?_ (by first | (simp; done) | (simp; omega) | omega) hb4) | (refine below_then ?_ (by first | (simp; done) | (simp; omega) | omega) hb3) | (refine below_then ?_ (by first | (simp; done) | (simp; omega) | omega) hb2) | (refine below_then ?_ (by first | (simp; done) | (simp; omega) | omega) hb1)))⟩
def showR (l : List AField) (body : ByteArray) : ByteArray := if msgFault l body = 0 then showT l body else ⟨#[]⟩
set_option maxHeartbeats 1000000 in
set_option maxRecDepth 100000 in
theorem letShow_calls (A : Option Addr) (c : Nat) (l : List AField) (body : ByteArray) (m : Int) (w : World) (hr : Kd.C kAField w A l.length l) (hl : (showL l).length ≤ 4000000000000) (hs : ∀ x ∈ l, x.name.size ≤ 1048576 ∧ x.value.size ≤ 1048576) (hb : body.size ≤ 1048576) (hm : w.cell? ⟨0, 0, none⟩ = some (.int .i64 m)) (hg : 0 < w.heap.size) :
    Calls Tryd.prog 29 #[.agg #[.slice A l.length c, .string body]] w fun e w' => e = .returned (.tuple #[.string (showR l body), .int .i64 (msgFault l body)]) ∧ Below w.heap.size w w' := by
  have H1 := fun w hr hm hg => letCheck_calls A c l body m w hr hl hs hb hm hg
  have H2 := fun w hr => show_calls A c l body w hr hl hs hb
  unfold showR
  generalize msgFault l body = r at *
  generalize showT l body = sh at *
  have H1 := Lib.hid H1
  have H2 := Lib.hid H2
  by_cases h : r = 0
  · subst h
    rw [if_pos rfl]
    go_enter Tryd.func29, Tryd.ntmps29
    go_wp2_with fail
    refine (H1.out _ (Kd.C_below hr (by repeat (first | exact Below.refl _ _ | apply below_alloc | apply pw_below_drewN | apply below_drew1 | (refine Below.setCell ?_ (by first | (simp; done) | (simp; omega) | omega) _) ))) (cell_below (B := w.heap.size) (by repeat (first | exact Below.refl _ _ | apply below_alloc | apply pw_below_drewN | apply below_drew1 | (refine Below.setCell ?_ (by first | (simp; done) | (simp; omega) | omega) _) )) hm hg) (Nat.lt_of_lt_of_le hg (Below.size (show Below w.heap.size w _ from (by repeat (first | exact Below.refl _ _ | apply below_alloc | apply pw_below_drewN | apply below_drew1 | (refine Below.setCell ?_ (by first | (simp; done) | (simp; omega) | omega) _) )))))).mono ?_
    rintro e w1 ⟨rfl, hb1⟩
    obtain ⟨hc_w1, hf_w1⟩ := bcell hb1
    have s_ := hb1.size
    (try simp at s_)
    (first | (have : w.heap.size < w1.heap.size := by omega) | skip)
    have : w.heap.size ≤ w1.heap.size := by omega
    clear s_
    have : w1.cell? ⟨w.heap.size, 0, none⟩ = some (.slice A l.length c) := (by rw [hc_w1 _ _ (by first | omega | (simp; done) | (simp; omega))]; first | (simp; done) | (simp [*]; done) | assumption | (simp [go_sem, *]; done)); have : w1.frozen? ⟨w.heap.size, 0, none⟩ = false := (by rw [hf_w1 _ _ (by first | omega | (simp; done) | (simp; omega))]; first | (simp; done) | (simp [*]; done) | assumption | (simp [go_sem, *]; done)); have : w1.cell? ⟨w.heap.size, 1, none⟩ = some (.string body) := (by rw [hc_w1 _ _ (by first | omega | (simp; done) | (simp; omega))]; first | (simp; done) | (simp [*]; done) | assumption | (simp [go_sem, *]; done)); have : w1.frozen? ⟨w.heap.size, 1, none⟩ = false := (by rw [hf_w1 _ _ (by first | omega | (simp; done) | (simp; omega))]; first | (simp; done) | (simp [*]; done) | assumption | (simp [go_sem, *]; done))
    go_wp2_with fail
    refine (H2.out _ (Kd.C_below hr (by repeat (first | exact Below.refl _ _ | apply below_alloc | apply pw_below_drewN | apply below_drew1 | (refine Below.setCell ?_ (by first | (simp; done) | (simp; omega) | omega) _) | (refine below_then ?_ (by first | (simp; done) | (simp; omega) | omega) hb1))))).mono ?_
    rintro e w2 ⟨rfl, hb2⟩
    go_wp2_with fail
    refine bodyPost_ret (v := .tuple #[.string sh, .int .i64 0]) (by simp [results, Tryd.results29, go_sem, *]) rfl ⟨rfl, (by repeat (first | exact Below.refl _ _ | apply below_alloc | apply pw_below_drewN | apply below_drew1 | (refine Below.setCell ?_ (by first | (simp; done) | (simp; omega) | omega) _) | (refine below_then ?_ (by first | (simp; done) | (simp; omega) | omega) hb2) | (refine below_then ?_ (by first | (simp; done) | (simp; omega) | omega) hb1)))⟩
  · rw [if_neg h]
    have hq : (r == 0) = false := by rw [beq_eq_false_iff_ne]; exact h
    go_enter Tryd.func29, Tryd.ntmps29
    go_wp2_with fail
    refine (H1.out _ (Kd.C_below hr (by repeat (first | exact Below.refl _ _ | apply below_alloc | apply pw_below_drewN | apply below_drew1 | (refine Below.setCell ?_ (by first | (simp; done) | (simp; omega) | omega) _) ))) (cell_below (B := w.heap.size) (by repeat (first | exact Below.refl _ _ | apply below_alloc | apply pw_below_drewN | apply below_drew1 | (refine Below.setCell ?_ (by first | (simp; done) | (simp; omega) | omega) _) )) hm hg) (Nat.lt_of_lt_of_le hg (Below.size (show Below w.heap.size w _ from (by repeat (first | exact Below.refl _ _ | apply below_alloc | apply pw_below_drewN | apply below_drew1 | (refine Below.setCell ?_ (by first | (simp; done) | (simp; omega) | omega) _) )))))).mono ?_
    rintro e w1 ⟨rfl, hb1⟩
    go_wp2_with fail
    refine bodyPost_ret (v := .tuple #[.string ⟨#[]⟩, .int .i64 r]) (by simp [results, Tryd.results29, go_sem, *]) rfl ⟨rfl, (by repeat (first | exact Below.refl _ _ | apply below_alloc | apply pw_below_drewN | apply below_drew1 | (refine Below.setCell ?_ (by first | (simp; done) | (simp; omega) | omega) _) | (refine below_then ?_ (by first | (simp; done) | (simp; omega) | omega) hb1)))⟩
set_option maxHeartbeats 1000000 in
set_option maxRecDepth 100000 in
theorem refShown_calls (A : Option Addr) (c : Nat) (l : List AField) (body : ByteArray) (m : Int) (w : World) (hr : Kd.C kAField w A l.length l) (hl : (showL l).length ≤ 4000000000000) (hs : ∀ x ∈ l, x.name.size ≤ 1048576 ∧ x.value.size ≤ 1048576) (hb : body.size ≤ 1048576) (hm : w.cell? ⟨0, 0, none⟩ = some (.int .i64 m)) (hg : 0 < w.heap.size) :
    Calls Tryd.prog 30 #[.agg #[.slice A l.length c, .string body]] w fun e w' => e = .returned (.tuple #[.string (showR l body), .int .i64 (msgFault l body)]) ∧ Below w.heap.size w w' := by
  have H1 := fun w hr hm hg => (fun (_ : w.cell? ⟨0, 0, none⟩ = some (.int .i64 m)) (_ : 0 < w.heap.size) => refMsg_calls A c l body w hr hl hs hb) hm hg
  have H2 := fun w hr => messageText_calls A c l body w hr hl hs hb
  unfold showR
  generalize msgFault l body = r at *
  generalize showT l body = sh at *
  have H1 := Lib.hid H1
  have H2 := Lib.hid H2
  by_cases h : r = 0
  · subst h
    rw [if_pos rfl]
    go_enter Tryd.func30, Tryd.ntmps30
    go_wp2_with fail
    refine (H1.out _ (Kd.C_below hr (by repeat (first | exact Below.refl _ _ | apply below_alloc | apply pw_below_drewN | apply below_drew1 | (refine Below.setCell ?_ (by first | (simp; done) | (simp; omega) | omega) _) ))) (cell_below (B := w.heap.size) (by repeat (first | exact Below.refl _ _ | apply below_alloc | apply pw_below_drewN | apply below_drew1 | (refine Below.setCell ?_ (by first | (simp; done) | (simp; omega) | omega) _) )) hm hg) (Nat.lt_of_lt_of_le hg (Below.size (show Below w.heap.size w _ from (by repeat (first | exact Below.refl _ _ | apply below_alloc | apply pw_below_drewN | apply below_drew1 | (refine Below.setCell ?_ (by first | (simp; done) | (simp; omega) | omega) _) )))))).mono ?_
    rintro e w1 ⟨rfl, hb1⟩
    obtain ⟨hc_w1, hf_w1⟩ := bcell hb1
    have s_ := hb1.size
    (try simp at s_)
    (first | (have : w.heap.size < w1.heap.size := by omega) | skip)
    have : w.heap.size ≤ w1.heap.size := by omega
    clear s_
    have : w1.cell? ⟨w.heap.size, 0, none⟩ = some (.slice A l.length c) := (by rw [hc_w1 _ _ (by first | omega | (simp; done) | (simp; omega))]; first | (simp; done) | (simp [*]; done) | assumption | (simp [go_sem, *]; done)); have : w1.frozen? ⟨w.heap.size, 0, none⟩ = false := (by rw [hf_w1 _ _ (by first | omega | (simp; done) | (simp; omega))]; first | (simp; done) | (simp [*]; done) | assumption | (simp [go_sem, *]; done)); have : w1.cell? ⟨w.heap.size, 1, none⟩ = some (.string body) := (by rw [hc_w1 _ _ (by first | omega | (simp; done) | (simp; omega))]; first | (simp; done) | (simp [*]; done) | assumption | (simp [go_sem, *]; done)); have : w1.frozen? ⟨w.heap.size, 1, none⟩ = false := (by rw [hf_w1 _ _ (by first | omega | (simp; done) | (simp; omega))]; first | (simp; done) | (simp [*]; done) | assumption | (simp [go_sem, *]; done))
    go_wp2_with fail
    refine (H2.out _ (Kd.C_below hr (by repeat (first | exact Below.refl _ _ | apply below_alloc | apply pw_below_drewN | apply below_drew1 | (refine Below.setCell ?_ (by first | (simp; done) | (simp; omega) | omega) _) | (refine below_then ?_ (by first | (simp; done) | (simp; omega) | omega) hb1))))).mono ?_
    rintro e w2 ⟨rfl, hb2⟩
    go_wp2_with fail
    refine bodyPost_ret (v := .tuple #[.string sh, .int .i64 0]) (by simp [results, Tryd.results30, go_sem, *]) rfl ⟨rfl, (by repeat (first | exact Below.refl _ _ | apply below_alloc | apply pw_below_drewN | apply below_drew1 | (refine Below.setCell ?_ (by first | (simp; done) | (simp; omega) | omega) _) | (refine below_then ?_ (by first | (simp; done) | (simp; omega) | omega) hb2) | (refine below_then ?_ (by first | (simp; done) | (simp; omega) | omega) hb1)))⟩
  · rw [if_neg h]
    have hq : (r == 0) = false := by rw [beq_eq_false_iff_ne]; exact h
    go_enter Tryd.func30, Tryd.ntmps30
    go_wp2_with fail
    refine (H1.out _ (Kd.C_below hr (by repeat (first | exact Below.refl _ _ | apply below_alloc | apply pw_below_drewN | apply below_drew1 | (refine Below.setCell ?_ (by first | (simp; done) | (simp; omega) | omega) _) ))) (cell_below (B := w.heap.size) (by repeat (first | exact Below.refl _ _ | apply below_alloc | apply pw_below_drewN | apply below_drew1 | (refine Below.setCell ?_ (by first | (simp; done) | (simp; omega) | omega) _) )) hm hg) (Nat.lt_of_lt_of_le hg (Below.size (show Below w.heap.size w _ from (by repeat (first | exact Below.refl _ _ | apply below_alloc | apply pw_below_drewN | apply below_drew1 | (refine Below.setCell ?_ (by first | (simp; done) | (simp; omega) | omega) _) )))))).mono ?_
    rintro e w1 ⟨rfl, hb1⟩
    go_wp2_with fail
    refine bodyPost_ret (v := .tuple #[.string ⟨#[]⟩, .int .i64 r]) (by simp [results, Tryd.results30, go_sem, *]) rfl ⟨rfl, (by repeat (first | exact Below.refl _ _ | apply below_alloc | apply pw_below_drewN | apply below_drew1 | (refine Below.setCell ?_ (by first | (simp; done) | (simp; omega) | omega) _) | (refine below_then ?_ (by first | (simp; done) | (simp; omega) | omega) hb1)))⟩
set_option maxHeartbeats 1000000 in
set_option maxRecDepth 100000 in
theorem letterShows_walk (A : Option Addr) (c : Nat) (l : List AField) (body : ByteArray) (m : Int) (w : World) (hr : Kd.C kAField w A l.length l) (hll : l.length ≤ 1048576) (hs : ∀ x ∈ l, x.name.size ≤ 1048576 ∧ x.value.size ≤ 1048576) (hb : body.size ≤ 1048576) (hm : w.cell? ⟨0, 0, none⟩ = some (.int .i64 m)) (hg : 0 < w.heap.size) :
    Calls Tryd.prog 8 #[.agg #[.slice A l.length c, .string body]] w fun e w' => e = .returned (.bool true) ∧ Below w.heap.size w w' := by
  have hl : (showL l).length ≤ 4000000000000 := by have := showL_bound l hs; omega
  have H1 := fun A c w hr hm hg => letShow_calls A c l body m w hr hl hs hb hm hg
  have H2 := fun w hr hm hg => refShown_calls A c l body m w hr hl hs hb hm hg
  have H0 := fun w hr => messages_calls A c l body w hr (by omega)
  generalize msgFault l body = r at *
  generalize showR l body = sh at *
  have H1 := Lib.hid H1
  have H2 := Lib.hid H2
  have H0 := Lib.hid H0
  go_enter Tryd.func8, Tryd.ntmps8
  go_wp2_with fail
  refine (H0.out _ (Kd.C_below hr (by repeat (first | exact Below.refl _ _ | apply below_alloc | apply pw_below_drewN | apply below_drew1 | (refine Below.setCell ?_ (by first | (simp; done) | (simp; omega) | omega) _) )))).mono ?_
  rintro e w1 ⟨v, rfl, hR, hb1⟩
  obtain ⟨hc_w1, hf_w1⟩ := bcell hb1
  have s_ := hb1.size
  (try simp at s_)
  (first | (have : w.heap.size < w1.heap.size := by omega) | skip)
  have : w.heap.size ≤ w1.heap.size := by omega
  clear s_
  have : w1.cell? ⟨w.heap.size, 0, none⟩ = some (.slice A l.length c) := (by rw [hc_w1 _ _ (by first | omega | (simp; done) | (simp; omega))]; first | (simp; done) | (simp [*]; done) | assumption | (simp [go_sem, *]; done)); have : w1.frozen? ⟨w.heap.size, 0, none⟩ = false := (by rw [hf_w1 _ _ (by first | omega | (simp; done) | (simp; omega))]; first | (simp; done) | (simp [*]; done) | assumption | (simp [go_sem, *]; done)); have : w1.cell? ⟨w.heap.size, 1, none⟩ = some (.string body) := (by rw [hc_w1 _ _ (by first | omega | (simp; done) | (simp; omega))]; first | (simp; done) | (simp [*]; done) | assumption | (simp [go_sem, *]; done)); have : w1.frozen? ⟨w.heap.size, 1, none⟩ = false := (by rw [hf_w1 _ _ (by first | omega | (simp; done) | (simp; omega))]; first | (simp; done) | (simp [*]; done) | assumption | (simp [go_sem, *]; done))
  obtain ⟨A1, c1, rfl, hlc1, hr1⟩ := C_of hR
  go_wp2_with fail
  refine (H1.out A1 c1 _ hr1 (cell_below (B := w.heap.size) (by repeat (first | exact Below.refl _ _ | apply below_alloc | apply pw_below_drewN | apply below_drew1 | (refine Below.setCell ?_ (by first | (simp; done) | (simp; omega) | omega) _) | (refine below_then ?_ (by first | (simp; done) | (simp; omega) | omega) hb1))) hm hg) (Nat.lt_of_lt_of_le hg (Below.size (show Below w.heap.size w _ from (by repeat (first | exact Below.refl _ _ | apply below_alloc | apply pw_below_drewN | apply below_drew1 | (refine Below.setCell ?_ (by first | (simp; done) | (simp; omega) | omega) _) | (refine below_then ?_ (by first | (simp; done) | (simp; omega) | omega) hb1))))))).mono ?_
  rintro e w2 ⟨rfl, hb2⟩
  obtain ⟨hc_w2, hf_w2⟩ := bcell hb2
  have s_ := hb2.size
  (try simp at s_)
  (first | (have : w.heap.size < w2.heap.size := by omega) | skip)
  have : w.heap.size ≤ w2.heap.size := by omega
  (first | (have : w1.heap.size < w2.heap.size := by omega) | skip)
  have : w1.heap.size ≤ w2.heap.size := by omega
  clear s_
  have : w2.cell? ⟨w.heap.size, 0, none⟩ = some (.slice A l.length c) := (by rw [hc_w2 _ _ (by first | omega | (simp; done) | (simp; omega))]; first | (simp; done) | (simp [*]; done) | assumption | (simp [go_sem, *]; done)); have : w2.frozen? ⟨w.heap.size, 0, none⟩ = false := (by rw [hf_w2 _ _ (by first | omega | (simp; done) | (simp; omega))]; first | (simp; done) | (simp [*]; done) | assumption | (simp [go_sem, *]; done)); have : w2.cell? ⟨w.heap.size, 1, none⟩ = some (.string body) := (by rw [hc_w2 _ _ (by first | omega | (simp; done) | (simp; omega))]; first | (simp; done) | (simp [*]; done) | assumption | (simp [go_sem, *]; done)); have : w2.frozen? ⟨w.heap.size, 1, none⟩ = false := (by rw [hf_w2 _ _ (by first | omega | (simp; done) | (simp; omega))]; first | (simp; done) | (simp [*]; done) | assumption | (simp [go_sem, *]; done))
  go_wp2_with fail
  refine (H2.out _ (Kd.C_below hr (by repeat (first | exact Below.refl _ _ | apply below_alloc | apply pw_below_drewN | apply below_drew1 | (refine Below.setCell ?_ (by first | (simp; done) | (simp; omega) | omega) _) | (refine below_then ?_ (by first | (simp; done) | (simp; omega) | omega) hb2) | (refine below_then ?_ (by first | (simp; done) | (simp; omega) | omega) hb1)))) (cell_below (B := w.heap.size) (by repeat (first | exact Below.refl _ _ | apply below_alloc | apply pw_below_drewN | apply below_drew1 | (refine Below.setCell ?_ (by first | (simp; done) | (simp; omega) | omega) _) | (refine below_then ?_ (by first | (simp; done) | (simp; omega) | omega) hb2) | (refine below_then ?_ (by first | (simp; done) | (simp; omega) | omega) hb1))) hm hg) (Nat.lt_of_lt_of_le hg (Below.size (show Below w.heap.size w _ from (by repeat (first | exact Below.refl _ _ | apply below_alloc | apply pw_below_drewN | apply below_drew1 | (refine Below.setCell ?_ (by first | (simp; done) | (simp; omega) | omega) _) | (refine below_then ?_ (by first | (simp; done) | (simp; omega) | omega) hb2) | (refine below_then ?_ (by first | (simp; done) | (simp; omega) | omega) hb1))))))).mono ?_
  rintro e w3 ⟨rfl, hb3⟩
  go_wp2_with fail
  go_ret
  exact ⟨(by first | rfl | (simp; done) | (simp [*]; done) | (rw [if_pos (by omega)]; first | rfl | (simp; done)) | (rw [if_neg (by omega)]; first | rfl | (simp; done)) | (simp; omega)), (by repeat (first | exact Below.refl _ _ | apply below_alloc | apply pw_below_drewN | apply below_drew1 | (refine Below.setCell ?_ (by first | (simp; done) | (simp; omega) | omega) _) | (refine below_then ?_ (by first | (simp; done) | (simp; omega) | omega) hb3) | (refine below_then ?_ (by first | (simp; done) | (simp; omega) | omega) hb2) | (refine below_then ?_ (by first | (simp; done) | (simp; omega) | omega) hb1)))⟩
end Go.Proofs.YtpeenmbonhijmaaDoor.H
