/- who.Part and the reference's PartOf: the walks. -/
import Derived.Test.YtioemcfadniokaaDoorWhoC
namespace Go.Proofs.YtioemcfadniokaaDoor.H
open Go.RowKit Go.Proofs.YtioemcfadniokaaDoorW.PrintWords Go.Proofs.YtioemcfadniokaaDoorW.PrintLast Go.Proofs.YtioemcfadniokaaDoorW.PrintMore Go.Proofs.YtioemcfadniokaaDoor.U
set_option linter.unusedVariables false
set_option linter.unusedSimpArgs false
def partE (k f : Int) : Int := if f = 0 then if 1 ≤ k ∧ k ≤ 3 then 0 else 2 else f
def partV (k f : Int) (a b : ByteArray) : ByteArray := if f = 0 then if k = 1 then a ++ ⟨#[64]⟩ ++ b else if k = 2 then a else if k = 3 then b else ⟨#[]⟩ else ⟨#[]⟩
set_option maxHeartbeats 1000000 in
set_option maxRecDepth 100000 in
theorem part_calls (k : Int) (a b : ByteArray) (m : Int) (w : World) (ha : a.size ≤ 1048576) (hb : b.size ≤ 1048576) (hm : w.cell? ⟨1, 0, none⟩ = some (.int .i64 m)) (hg : 1 < w.heap.size) :
    Calls Tryd.prog 11 #[.int .i64 k, .agg #[.string a, .string b]] w fun e w' => e = .returned (.tuple #[.string (partV k (addrFault a b) a b), .int .i64 (partE k (addrFault a b))]) ∧ Below w.heap.size w w' := by
  have HC := Lib.hid (fun w hm hg => check_calls a b m w ha hb hm hg)
  generalize addrFault a b = f at *
  rcases (by omega : f ≠ 0 ∨ (f = 0 ∧ k = 1) ∨ (f = 0 ∧ k = 2) ∨ (f = 0 ∧ k = 3) ∨ (f = 0 ∧ (k < 1 ∨ 3 < k))) with h | ⟨h, h1⟩ | ⟨h, h1⟩ | ⟨h, h1⟩ | ⟨h, h1⟩
  · have ev : partV k f a b = ⟨#[]⟩ := by simp [partV, *]
    have ee : partE k f = f := by first | (simp [partE, *]; done) | (simp [partE]; omega)
    rw [ev, ee]
    clear ev ee
    have q : (f == 0) = false := by simpa using h
    go_enter Tryd.func11, Tryd.ntmps11
    go_wp2_with fail
    refine (HC.out _ (cell_below (B := w.heap.size) (by repeat (first | exact Below.refl _ _ | apply below_alloc | apply pw_below_drewN | apply below_drew1 | (refine Below.setCell ?_ (by first | (simp; done) | (simp; omega) | omega) _) )) hm hg) (by simp; omega)).mono ?_
    rintro e w1 ⟨rfl, hb1⟩
    obtain ⟨hc_w1, hf_w1⟩ := bcell hb1
    have s_ := hb1.size
    (try simp at s_)
    (first | (have : w.heap.size < w1.heap.size := by omega) | skip)
    have : w.heap.size ≤ w1.heap.size := by omega
    clear s_
    go_wp2_with fail
    refine bodyPost_ret (v := .tuple #[.string ⟨#[]⟩, .int .i64 f]) (by simp [results, Tryd.results11, go_sem, *]) rfl ⟨rfl, (by repeat (first | exact Below.refl _ _ | apply below_alloc | apply pw_below_drewN | apply below_drew1 | (refine Below.setCell ?_ (by first | (simp; done) | (simp; omega) | omega) _) | (refine below_then ?_ (by first | (simp; done) | (simp; omega) | omega) hb1)))⟩
  · have ev : partV k f a b = a ++ ⟨#[64]⟩ ++ b := by simp [partV, *]
    have ee : partE k f = 0 := by first | (simp [partE, *]; done) | (simp [partE]; omega)
    rw [ev, ee]
    clear ev ee
    subst h h1
    go_enter Tryd.func11, Tryd.ntmps11
    go_wp2_with fail
    refine (HC.out _ (cell_below (B := w.heap.size) (by repeat (first | exact Below.refl _ _ | apply below_alloc | apply pw_below_drewN | apply below_drew1 | (refine Below.setCell ?_ (by first | (simp; done) | (simp; omega) | omega) _) )) hm hg) (by simp; omega)).mono ?_
    rintro e w1 ⟨rfl, hb1⟩
    obtain ⟨hc_w1, hf_w1⟩ := bcell hb1
    have s_ := hb1.size
    (try simp at s_)
    (first | (have : w.heap.size < w1.heap.size := by omega) | skip)
    have : w.heap.size ≤ w1.heap.size := by omega
    clear s_
    go_wp2_with fail
    refine bodyPost_ret (v := .tuple #[.string (a ++ ⟨#[64]⟩ ++ b), .int .i64 0]) (by simp [results, Tryd.results11, go_sem, *]) rfl ⟨rfl, (by repeat (first | exact Below.refl _ _ | apply below_alloc | apply pw_below_drewN | apply below_drew1 | (refine Below.setCell ?_ (by first | (simp; done) | (simp; omega) | omega) _) | (refine below_then ?_ (by first | (simp; done) | (simp; omega) | omega) hb1)))⟩
  · have ev : partV k f a b = a := by simp [partV, *]
    have ee : partE k f = 0 := by first | (simp [partE, *]; done) | (simp [partE]; omega)
    rw [ev, ee]
    clear ev ee
    subst h h1
    go_enter Tryd.func11, Tryd.ntmps11
    go_wp2_with fail
    refine (HC.out _ (cell_below (B := w.heap.size) (by repeat (first | exact Below.refl _ _ | apply below_alloc | apply pw_below_drewN | apply below_drew1 | (refine Below.setCell ?_ (by first | (simp; done) | (simp; omega) | omega) _) )) hm hg) (by simp; omega)).mono ?_
    rintro e w1 ⟨rfl, hb1⟩
    obtain ⟨hc_w1, hf_w1⟩ := bcell hb1
    have s_ := hb1.size
    (try simp at s_)
    (first | (have : w.heap.size < w1.heap.size := by omega) | skip)
    have : w.heap.size ≤ w1.heap.size := by omega
    clear s_
    go_wp2_with fail
    refine bodyPost_ret (v := .tuple #[.string a, .int .i64 0]) (by simp [results, Tryd.results11, go_sem, *]) rfl ⟨rfl, (by repeat (first | exact Below.refl _ _ | apply below_alloc | apply pw_below_drewN | apply below_drew1 | (refine Below.setCell ?_ (by first | (simp; done) | (simp; omega) | omega) _) | (refine below_then ?_ (by first | (simp; done) | (simp; omega) | omega) hb1)))⟩
  · have ev : partV k f a b = b := by simp [partV, *]
    have ee : partE k f = 0 := by first | (simp [partE, *]; done) | (simp [partE]; omega)
    rw [ev, ee]
    clear ev ee
    subst h h1
    go_enter Tryd.func11, Tryd.ntmps11
    go_wp2_with fail
    refine (HC.out _ (cell_below (B := w.heap.size) (by repeat (first | exact Below.refl _ _ | apply below_alloc | apply pw_below_drewN | apply below_drew1 | (refine Below.setCell ?_ (by first | (simp; done) | (simp; omega) | omega) _) )) hm hg) (by simp; omega)).mono ?_
    rintro e w1 ⟨rfl, hb1⟩
    obtain ⟨hc_w1, hf_w1⟩ := bcell hb1
    have s_ := hb1.size
    (try simp at s_)
    (first | (have : w.heap.size < w1.heap.size := by omega) | skip)
    have : w.heap.size ≤ w1.heap.size := by omega
    clear s_
    go_wp2_with fail
    refine bodyPost_ret (v := .tuple #[.string b, .int .i64 0]) (by simp [results, Tryd.results11, go_sem, *]) rfl ⟨rfl, (by repeat (first | exact Below.refl _ _ | apply below_alloc | apply pw_below_drewN | apply below_drew1 | (refine Below.setCell ?_ (by first | (simp; done) | (simp; omega) | omega) _) | (refine below_then ?_ (by first | (simp; done) | (simp; omega) | omega) hb1)))⟩
  · have k1 : k ≠ 1 := by omega
    have k2 : k ≠ 2 := by omega
    have k3 : k ≠ 3 := by omega
    have ev : partV k f a b = ⟨#[]⟩ := by simp [partV, *]
    have ee : partE k f = 2 := by first | (simp [partE, *]; done) | (simp [partE]; omega)
    rw [ev, ee]
    clear ev ee
    subst h
    go_enter Tryd.func11, Tryd.ntmps11
    go_wp2_with fail
    refine (HC.out _ (cell_below (B := w.heap.size) (by repeat (first | exact Below.refl _ _ | apply below_alloc | apply pw_below_drewN | apply below_drew1 | (refine Below.setCell ?_ (by first | (simp; done) | (simp; omega) | omega) _) )) hm hg) (by simp; omega)).mono ?_
    rintro e w1 ⟨rfl, hb1⟩
    obtain ⟨hc_w1, hf_w1⟩ := bcell hb1
    have s_ := hb1.size
    (try simp at s_)
    (first | (have : w.heap.size < w1.heap.size := by omega) | skip)
    have : w.heap.size ≤ w1.heap.size := by omega
    clear s_
    go_wp2_with fail
    refine bodyPost_ret (v := .tuple #[.string ⟨#[]⟩, .int .i64 2]) (by simp [results, Tryd.results11, go_sem, *]) rfl ⟨rfl, (by repeat (first | exact Below.refl _ _ | apply below_alloc | apply pw_below_drewN | apply below_drew1 | (refine Below.setCell ?_ (by first | (simp; done) | (simp; omega) | omega) _) | (refine below_then ?_ (by first | (simp; done) | (simp; omega) | omega) hb1)))⟩
set_option maxHeartbeats 1000000 in
set_option maxRecDepth 100000 in
theorem partPlain_calls (k : Int) (a b : ByteArray) (w : World) (ha : a.size ≤ 1048576) (hb : b.size ≤ 1048576) (hk : 1 ≤ k ∧ k ≤ 3) :
    Calls Tryd.prog 18 #[.int .i64 k, .agg #[.string a, .string b]] w fun e w' => e = .returned (.string (partV k 0 a b)) ∧ Below w.heap.size w w' := by
  rcases (by omega : k = 1 ∨ k = 2 ∨ k = 3) with h | h | h
  all_goals
    subst h
    clear hk
    go_enter Tryd.func18, Tryd.ntmps18
    go_wp2
    go_ret
    exact ⟨by simp [partV], (by repeat (first | exact Below.refl _ _ | apply below_alloc | apply pw_below_drewN | apply below_drew1 | (refine Below.setCell ?_ (by first | (simp; done) | (simp; omega) | omega) _) ))⟩
set_option maxHeartbeats 1000000 in
set_option maxRecDepth 100000 in
theorem partOf_calls (k : Int) (a b : ByteArray) (w : World) (ha : a.size ≤ 1048576) (hb : b.size ≤ 1048576) :
    Calls Tryd.prog 12 #[.int .i64 k, .agg #[.string a, .string b]] w fun e w' => e = .returned (.tuple #[.string (partV k (addrFault a b) a b), .int .i64 (partE k (addrFault a b))]) ∧ Below w.heap.size w w' := by
  have HC := Lib.hid (fun w => addressFault_calls a b w ha hb)
  have HP := Lib.hid (fun w hk => partPlain_calls k a b w ha hb hk)
  generalize addrFault a b = f at *
  rcases (by omega : f ≠ 0 ∨ (f = 0 ∧ 1 ≤ k ∧ k ≤ 3) ∨ (f = 0 ∧ (k < 1 ∨ 3 < k))) with h | ⟨h, h1⟩ | ⟨h, h1⟩
  · have ev : partV k f a b = ⟨#[]⟩ := by simp [partV, *]
    have ee : partE k f = f := by first | (simp [partE, *]; done) | (simp [partE]; omega)
    rw [ev, ee]
    clear ev ee
    have q : (f == 0) = false := by simpa using h
    go_enter Tryd.func12, Tryd.ntmps12
    go_wp2_with fail
    refine (HC.out _).mono ?_
    rintro e w1 ⟨rfl, hb1⟩
    obtain ⟨hc_w1, hf_w1⟩ := bcell hb1
    have s_ := hb1.size
    (try simp at s_)
    (first | (have : w.heap.size < w1.heap.size := by omega) | skip)
    have : w.heap.size ≤ w1.heap.size := by omega
    clear s_
    go_wp2_with fail
    refine bodyPost_ret (v := .tuple #[.string ⟨#[]⟩, .int .i64 f]) (by simp [results, Tryd.results12, go_sem, *]) rfl ⟨rfl, (by repeat (first | exact Below.refl _ _ | apply below_alloc | apply pw_below_drewN | apply below_drew1 | (refine Below.setCell ?_ (by first | (simp; done) | (simp; omega) | omega) _) | (refine below_then ?_ (by first | (simp; done) | (simp; omega) | omega) hb1)))⟩
  · subst h
    rw [show partE k 0 = 0 by simp [partE, h1]]
    generalize partV k 0 a b = r at *
    have HP := Lib.hid (fun w => HP.out w h1)
    obtain ⟨h1, h2⟩ := h1
    go_enter Tryd.func12, Tryd.ntmps12
    go_wp2_with fail
    refine (HC.out _).mono ?_
    rintro e w1 ⟨rfl, hb1⟩
    obtain ⟨hc_w1, hf_w1⟩ := bcell hb1
    have s_ := hb1.size
    (try simp at s_)
    (first | (have : w.heap.size < w1.heap.size := by omega) | skip)
    have : w.heap.size ≤ w1.heap.size := by omega
    clear s_
    go_wp2_with (go_at_call 17; first | (refine (in_yes _ _ _ _ (by omega) (by omega)).mono ?_; rintro e w' ⟨rfl, rfl⟩) | (refine (in_no _ _ _ _ (by omega)).mono ?_; rintro e w' ⟨rfl, rfl⟩))
    refine (HP.out _).mono ?_
    rintro e w2 ⟨rfl, hb2⟩
    go_wp2_with fail
    refine bodyPost_ret (v := .tuple #[.string r, .int .i64 0]) (by simp [results, Tryd.results12, go_sem, *]) rfl ⟨rfl, (by repeat (first | exact Below.refl _ _ | apply below_alloc | apply pw_below_drewN | apply below_drew1 | (refine Below.setCell ?_ (by first | (simp; done) | (simp; omega) | omega) _) | (refine below_then ?_ (by first | (simp; done) | (simp; omega) | omega) hb2) | (refine below_then ?_ (by first | (simp; done) | (simp; omega) | omega) hb1)))⟩
  · have k1 : k ≠ 1 := by omega
    have k2 : k ≠ 2 := by omega
    have k3 : k ≠ 3 := by omega
    have ev : partV k f a b = ⟨#[]⟩ := by simp [partV, *]
    have ee : partE k f = 2 := by first | (simp [partE, *]; done) | (simp [partE]; omega)
    rw [ev, ee]
    clear ev ee
    subst h
    rcases h1 with h1 | h1
    all_goals
      go_enter Tryd.func12, Tryd.ntmps12
      go_wp2_with fail
      refine (HC.out _).mono ?_
      rintro e w1 ⟨rfl, hb1⟩
      obtain ⟨hc_w1, hf_w1⟩ := bcell hb1
      have s_ := hb1.size
      (try simp at s_)
      (first | (have : w.heap.size < w1.heap.size := by omega) | skip)
      have : w.heap.size ≤ w1.heap.size := by omega
      clear s_
      go_wp2_with (go_at_call 17; first | (refine (in_yes _ _ _ _ (by omega) (by omega)).mono ?_; rintro e w' ⟨rfl, rfl⟩) | (refine (in_no _ _ _ _ (by omega)).mono ?_; rintro e w' ⟨rfl, rfl⟩))
      refine bodyPost_ret (v := .tuple #[.string ⟨#[]⟩, .int .i64 2]) (by simp [results, Tryd.results12, go_sem, *]) rfl ⟨rfl, (by repeat (first | exact Below.refl _ _ | apply below_alloc | apply pw_below_drewN | apply below_drew1 | (refine Below.setCell ?_ (by first | (simp; done) | (simp; omega) | omega) _) | (refine below_then ?_ (by first | (simp; done) | (simp; omega) | omega) hb1)))⟩
end Go.Proofs.YtioemcfadniokaaDoor.H
