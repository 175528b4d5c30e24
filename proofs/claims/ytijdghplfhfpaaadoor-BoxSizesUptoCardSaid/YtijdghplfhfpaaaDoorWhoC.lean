/- who.Check, who.Part and the reference's AddressFault, PartOf: the walks. -/
import Derived.Test.YtijdghplfhfpaaaDoorWhoB
namespace Go.Proofs.YtijdghplfhfpaaaDoor.H
open Go.RowKit Go.Proofs.YtijdghplfhfpaaaDoorW.PrintWords Go.Proofs.YtijdghplfhfpaaaDoorW.PrintLast Go.Proofs.YtijdghplfhfpaaaDoorW.PrintMore Go.Proofs.YtijdghplfhfpaaaDoor.U
set_option linter.unusedVariables false
set_option linter.unusedSimpArgs false
def dotB (s : ByteArray) : Bool := scanB true s.data.toList
def addrFault (a b : ByteArray) : Int := if dotB a = true ∧ dotB b = true then if a.size + b.size > 99 then 1 else 0 else 3
set_option maxHeartbeats 1000000 in
set_option maxRecDepth 100000 in
theorem check_calls (a b : ByteArray) (m : Int) (w : World) (ha : a.size ≤ 1048576) (hb : b.size ≤ 1048576) (hm : w.cell? ⟨6, 0, none⟩ = some (.int .i64 m)) (hg : 6 < w.heap.size) :
    Calls Tryd.prog 97 #[.agg #[.string a, .string b]] w fun e w' => e = .returned (.int .i64 (addrFault a b)) ∧ Below w.heap.size w w' := by
  have hval : addrFault a b = if dotB a then if dotB b then if a.size + b.size > 99 then 1 else 0 else 3 else 3 := by
    unfold addrFault; cases dotB a <;> cases dotB b <;> simp
  rw [hval]
  clear hval
  unfold dotB
  have HA := fun w hm => dotted_calls a m w ha hm
  have HB := fun w hm => dotted_calls b m w hb hm
  generalize scanB true a.data.toList = da at *
  generalize scanB true b.data.toList = db at *
  have HA := Lib.hid HA
  have HB := Lib.hid HB
  cases da with
  | false =>
    go_enter Tryd.func97, Tryd.ntmps97
    go_wp2_with fail
    refine (HA.out _ (cell_below (B := w.heap.size) (by repeat (first | exact Below.refl _ _ | apply below_alloc | apply pw_below_drewN | apply below_drew1 | (refine Below.setCell ?_ (by first | (simp; done) | (simp; omega) | omega) _) )) hm hg)).mono ?_
    rintro e w1 ⟨rfl, hb1⟩
    obtain ⟨hc_w1, hf_w1⟩ := bcell hb1
    have s_ := hb1.size
    (try simp at s_)
    (first | (have : w.heap.size < w1.heap.size := by omega) | skip)
    have : w.heap.size ≤ w1.heap.size := by omega
    clear s_
    go_wp2_with fail
    go_ret
    exact ⟨(by first | rfl | (simp; done) | (simp [*]; done) | (rw [if_pos (by omega)]; first | rfl | (simp; done)) | (rw [if_neg (by omega)]; first | rfl | (simp; done)) | (simp; omega)), (by repeat (first | exact Below.refl _ _ | apply below_alloc | apply pw_below_drewN | apply below_drew1 | (refine Below.setCell ?_ (by first | (simp; done) | (simp; omega) | omega) _) | (refine below_then ?_ (by first | (simp; done) | (simp; omega) | omega) hb1)))⟩
  | true =>
    cases db with
    | false =>
      go_enter Tryd.func97, Tryd.ntmps97
      go_wp2_with fail
      refine (HA.out _ (cell_below (B := w.heap.size) (by repeat (first | exact Below.refl _ _ | apply below_alloc | apply pw_below_drewN | apply below_drew1 | (refine Below.setCell ?_ (by first | (simp; done) | (simp; omega) | omega) _) )) hm hg)).mono ?_
      rintro e w1 ⟨rfl, hb1⟩
      obtain ⟨hc_w1, hf_w1⟩ := bcell hb1
      have s_ := hb1.size
      (try simp at s_)
      (first | (have : w.heap.size < w1.heap.size := by omega) | skip)
      have : w.heap.size ≤ w1.heap.size := by omega
      clear s_
      go_wp2_with fail
      refine (HB.out _ (cell_below (B := w.heap.size) (by repeat (first | exact Below.refl _ _ | apply below_alloc | apply pw_below_drewN | apply below_drew1 | (refine Below.setCell ?_ (by first | (simp; done) | (simp; omega) | omega) _) | (refine below_then ?_ (by first | (simp; done) | (simp; omega) | omega) hb1))) hm hg)).mono ?_
      rintro e w2 ⟨rfl, hb2⟩
      obtain ⟨hc_w2, hf_w2⟩ := bcell hb2
      have s_ := hb2.size
      (try simp at s_)
      (first | (have : w.heap.size < w2.heap.size := by omega) | skip)
      have : w.heap.size ≤ w2.heap.size := by omega
      (first | (have : w1.heap.size < w2.heap.size := by omega) | skip)
      have : w1.heap.size ≤ w2.heap.size := by omega
      clear s_
      go_wp2_with fail
      go_ret
      exact ⟨(by first | rfl | (simp; done) | (simp [*]; done) | (rw [if_pos (by omega)]; first | rfl | (simp; done)) | (rw [if_neg (by omega)]; first | rfl | (simp; done)) | (simp; omega)), (by repeat (first | exact Below.refl _ _ | apply below_alloc | apply pw_below_drewN | apply below_drew1 | (refine Below.setCell ?_ (by first | (simp; done) | (simp; omega) | omega) _) | (refine below_then ?_ (by first | (simp; done) | (simp; omega) | omega) hb2) | (refine below_then ?_ (by first | (simp; done) | (simp; omega) | omega) hb1)))⟩
    | true =>
      rcases (by omega : 99 < a.size + b.size ∨ a.size + b.size ≤ 99) with h | h
      all_goals
        go_enter Tryd.func97, Tryd.ntmps97
        go_wp2_with fail
        refine (HA.out _ (cell_below (B := w.heap.size) (by repeat (first | exact Below.refl _ _ | apply below_alloc | apply pw_below_drewN | apply below_drew1 | (refine Below.setCell ?_ (by first | (simp; done) | (simp; omega) | omega) _) )) hm hg)).mono ?_
        rintro e w1 ⟨rfl, hb1⟩
        obtain ⟨hc_w1, hf_w1⟩ := bcell hb1
        have s_ := hb1.size
        (try simp at s_)
        (first | (have : w.heap.size < w1.heap.size := by omega) | skip)
        have : w.heap.size ≤ w1.heap.size := by omega
        clear s_
        go_wp2_with fail
        refine (HB.out _ (cell_below (B := w.heap.size) (by repeat (first | exact Below.refl _ _ | apply below_alloc | apply pw_below_drewN | apply below_drew1 | (refine Below.setCell ?_ (by first | (simp; done) | (simp; omega) | omega) _) | (refine below_then ?_ (by first | (simp; done) | (simp; omega) | omega) hb1))) hm hg)).mono ?_
        rintro e w2 ⟨rfl, hb2⟩
        obtain ⟨hc_w2, hf_w2⟩ := bcell hb2
        have s_ := hb2.size
        (try simp at s_)
        (first | (have : w.heap.size < w2.heap.size := by omega) | skip)
        have : w.heap.size ≤ w2.heap.size := by omega
        (first | (have : w1.heap.size < w2.heap.size := by omega) | skip)
        have : w1.heap.size ≤ w2.heap.size := by omega
        clear s_
        go_wp2_with fail
        go_ret
        exact ⟨(by first | rfl | (simp; done) | (simp [*]; done) | (rw [if_pos (by omega)]; first | rfl | (simp; done)) | (rw [if_neg (by omega)]; first | rfl | (simp; done)) | (simp; omega)), (by repeat (first | exact Below.refl _ _ | apply below_alloc | apply pw_below_drewN | apply below_drew1 | (refine Below.setCell ?_ (by first | (simp; done) | (simp; omega) | omega) _) | (refine below_then ?_ (by first | (simp; done) | (simp; omega) | omega) hb2) | (refine below_then ?_ (by first | (simp; done) | (simp; omega) | omega) hb1)))⟩
set_option maxHeartbeats 1000000 in
set_option maxRecDepth 100000 in
theorem addressFault_calls (a b : ByteArray) (w : World) (ha : a.size ≤ 1048576) (hb : b.size ≤ 1048576) :
    Calls Tryd.prog 104 #[.agg #[.string a, .string b]] w fun e w' => e = .returned (.int .i64 (addrFault a b)) ∧ Below w.heap.size w w' := by
  have hval : addrFault a b = if dotB a then if dotB b then if a.size + b.size > 99 then 1 else 0 else 3 else 3 := by
    unfold addrFault; cases dotB a <;> cases dotB b <;> simp
  rw [hval]
  clear hval
  unfold dotB
  have HA := fun w => dottedMay_calls a w (by omega)
  have HB := fun w => dottedMay_calls b w (by omega)
  generalize scanB true a.data.toList = da at *
  generalize scanB true b.data.toList = db at *
  have HA := Lib.hid HA
  have HB := Lib.hid HB
  cases da with
  | false =>
    go_enter Tryd.func104, Tryd.ntmps104
    go_wp2_with fail
    refine (HA.out _).mono ?_
    rintro e w1 ⟨rfl, hb1⟩
    obtain ⟨hc_w1, hf_w1⟩ := bcell hb1
    have s_ := hb1.size
    (try simp at s_)
    (first | (have : w.heap.size < w1.heap.size := by omega) | skip)
    have : w.heap.size ≤ w1.heap.size := by omega
    clear s_
    go_wp2_with fail
    go_ret
    exact ⟨(by first | rfl | (simp; done) | (simp [*]; done) | (rw [if_pos (by omega)]; first | rfl | (simp; done)) | (rw [if_neg (by omega)]; first | rfl | (simp; done)) | (simp; omega)), (by repeat (first | exact Below.refl _ _ | apply below_alloc | apply pw_below_drewN | apply below_drew1 | (refine Below.setCell ?_ (by first | (simp; done) | (simp; omega) | omega) _) | (refine below_then ?_ (by first | (simp; done) | (simp; omega) | omega) hb1)))⟩
  | true =>
    cases db with
    | false =>
      go_enter Tryd.func104, Tryd.ntmps104
      go_wp2_with fail
      refine (HA.out _).mono ?_
      rintro e w1 ⟨rfl, hb1⟩
      obtain ⟨hc_w1, hf_w1⟩ := bcell hb1
      have s_ := hb1.size
      (try simp at s_)
      (first | (have : w.heap.size < w1.heap.size := by omega) | skip)
      have : w.heap.size ≤ w1.heap.size := by omega
      clear s_
      go_wp2_with fail
      refine (HB.out _).mono ?_
      rintro e w2 ⟨rfl, hb2⟩
      obtain ⟨hc_w2, hf_w2⟩ := bcell hb2
      have s_ := hb2.size
      (try simp at s_)
      (first | (have : w.heap.size < w2.heap.size := by omega) | skip)
      have : w.heap.size ≤ w2.heap.size := by omega
      (first | (have : w1.heap.size < w2.heap.size := by omega) | skip)
      have : w1.heap.size ≤ w2.heap.size := by omega
      clear s_
      go_wp2_with fail
      go_ret
      exact ⟨(by first | rfl | (simp; done) | (simp [*]; done) | (rw [if_pos (by omega)]; first | rfl | (simp; done)) | (rw [if_neg (by omega)]; first | rfl | (simp; done)) | (simp; omega)), (by repeat (first | exact Below.refl _ _ | apply below_alloc | apply pw_below_drewN | apply below_drew1 | (refine Below.setCell ?_ (by first | (simp; done) | (simp; omega) | omega) _) | (refine below_then ?_ (by first | (simp; done) | (simp; omega) | omega) hb2) | (refine below_then ?_ (by first | (simp; done) | (simp; omega) | omega) hb1)))⟩
    | true =>
      rcases (by omega : 99 < a.size + b.size ∨ a.size + b.size ≤ 99) with h | h
      all_goals
        go_enter Tryd.func104, Tryd.ntmps104
        go_wp2_with fail
        refine (HA.out _).mono ?_
        rintro e w1 ⟨rfl, hb1⟩
        obtain ⟨hc_w1, hf_w1⟩ := bcell hb1
        have s_ := hb1.size
        (try simp at s_)
        (first | (have : w.heap.size < w1.heap.size := by omega) | skip)
        have : w.heap.size ≤ w1.heap.size := by omega
        clear s_
        go_wp2_with fail
        refine (HB.out _).mono ?_
        rintro e w2 ⟨rfl, hb2⟩
        obtain ⟨hc_w2, hf_w2⟩ := bcell hb2
        have s_ := hb2.size
        (try simp at s_)
        (first | (have : w.heap.size < w2.heap.size := by omega) | skip)
        have : w.heap.size ≤ w2.heap.size := by omega
        (first | (have : w1.heap.size < w2.heap.size := by omega) | skip)
        have : w1.heap.size ≤ w2.heap.size := by omega
        clear s_
        go_wp2_with fail
        go_ret
        exact ⟨(by first | rfl | (simp; done) | (simp [*]; done) | (rw [if_pos (by omega)]; first | rfl | (simp; done)) | (rw [if_neg (by omega)]; first | rfl | (simp; done)) | (simp; omega)), (by repeat (first | exact Below.refl _ _ | apply below_alloc | apply pw_below_drewN | apply below_drew1 | (refine Below.setCell ?_ (by first | (simp; done) | (simp; omega) | omega) _) | (refine below_then ?_ (by first | (simp; done) | (simp; omega) | omega) hb2) | (refine below_then ?_ (by first | (simp; done) | (simp; omega) | omega) hb1)))⟩
end Go.Proofs.YtijdghplfhfpaaaDoor.H
