/- The law BookCrashes, walked. -/
import Derived.Test.YtioemcfadniokaaTapeB
namespace Go.Proofs.Ytioemcfadniokaa.H
open Go.RowKit Go.Proofs.YtioemcfadniokaaW.PrintWords Go.Proofs.YtioemcfadniokaaW.PrintLast Go.Proofs.YtioemcfadniokaaW.PrintMore Go.Proofs.Ytioemcfadniokaa.U
set_option linter.unusedVariables false
set_option linter.unusedSimpArgs false
attribute [local go_sem] min_two min2_int
def tapeOk (l : List Int) (s : Int) : Prop := 0 ≤ s ∧ s ≤ l.length ∧ l.length ≤ 100000
instance (l : List Int) (s : Int) : Decidable (tapeOk l s) := inferInstanceAs (Decidable (_ ∧ _))
def crashN (l : List Int) (s k : Int) : Nat := if k < (l.length : Int) - s then (s + k).toNat else l.length
def crashL (l : List Int) (s k : Int) : List Int := if tapeOk l s then if k < 0 then [] else l.take (crashN l s k) else []
def crashS (l : List Int) (s k : Int) : Int := if tapeOk l s then if k < 0 then 0 else crashN l s k else 0
def crashE (l : List Int) (s k : Int) : Int := if tapeOk l s then if k < 0 then 6 else 0 else 11
set_option maxHeartbeats 1000000 in
set_option maxRecDepth 100000 in
theorem crash_rest (A : Option Addr) (c : Nat) (l : List Int) (s k : Int) (w : World) (hr : Kd.C (Kd.int .u8) w A l.length l) (h0 : 0 ≤ s) (h1 : s ≤ l.length) (h2 : l.length ≤ 100000) (hk : (l.length : Int) - s < k) (hk2 : k ≤ 9223372036854775807) :
    Calls Try.prog 20 #[.agg #[.slice A l.length c, .int .i64 s], .int .i64 k] w fun e w' => ∃ A1 c1, e = .returned (.tuple #[.agg #[.slice A1 l.length c1, .int .i64 (l.length : Nat)], .int .i64 0]) ∧ Kd.C (Kd.int .u8) w' A1 l.length (l.take l.length) ∧ Below w.heap.size w w' := by
  have e9 : s + ((l.length : Int) - s) = (l.length : Nat) := by omega
  go_enter Try.func20, Try.ntmps20
  go_wp2_with fail
  refine (open_yes A c l s _ (Kd.C_below hr (by repeat (first | exact Below.refl _ _ | apply below_alloc | apply pw_below_drewN | apply below_drew1 | (refine Below.setCell ?_ (by first | (simp; done) | (simp; omega) | omega) _) ))) h0 h1 h2).mono ?_
  rintro e w1 ⟨v1, rfl, hR, hb1⟩
  obtain ⟨A1, c1, rfl, hl1, hr1⟩ := C_of hR
  obtain ⟨hc_w1, hf_w1⟩ := bcell hb1
  have s_ := hb1.size
  (try simp at s_)
  (first | (have : w.heap.size < w1.heap.size := by omega) | skip)
  have : w.heap.size ≤ w1.heap.size := by omega
  (first | (have : w.heap.size + 1 < w1.heap.size := by omega) | skip)
  have : w.heap.size + 1 ≤ w1.heap.size := by omega
  clear s_
  go_wp2
  refine bodyPost_ret (v := .tuple #[.agg #[.slice A1 l.length l.length, .int .i64 (l.length : Nat)], .int .i64 0]) (by simp [results, Try.results20, go_sem, *]) rfl ⟨A1, l.length, rfl, ?_, (by repeat (first | exact Below.refl _ _ | apply below_alloc | apply pw_below_drewN | apply below_drew1 | (refine Below.setCell ?_ (by first | (simp; done) | (simp; omega) | omega) _) | (refine below_then ?_ (by first | (simp; done) | (simp; omega) | omega) hb1)))⟩
  exact C_pre (C_ofR (Kd.R_alloc (R_elder (R_elder hR (by simp) _) (by simp) _) _)) _ (by omega)
set_option maxHeartbeats 1000000 in
set_option maxRecDepth 100000 in
theorem crash_part (A : Option Addr) (c : Nat) (l : List Int) (s k : Int) (n : Nat) (w : World) (hr : Kd.C (Kd.int .u8) w A l.length l) (h0 : 0 ≤ s) (h1 : s ≤ l.length) (h2 : l.length ≤ 100000) (hk : 0 ≤ k) (hk2 : k ≤ (l.length : Int) - s) (e9 : s + k = (n : Nat)) :
    Calls Try.prog 20 #[.agg #[.slice A l.length c, .int .i64 s], .int .i64 k] w fun e w' => ∃ A1 c1, e = .returned (.tuple #[.agg #[.slice A1 n c1, .int .i64 (n : Nat)], .int .i64 0]) ∧ Kd.C (Kd.int .u8) w' A1 n (l.take n) ∧ Below w.heap.size w w' := by
  go_enter Try.func20, Try.ntmps20
  go_wp2_with fail
  refine (open_yes A c l s _ (Kd.C_below hr (by repeat (first | exact Below.refl _ _ | apply below_alloc | apply pw_below_drewN | apply below_drew1 | (refine Below.setCell ?_ (by first | (simp; done) | (simp; omega) | omega) _) ))) h0 h1 h2).mono ?_
  rintro e w1 ⟨v1, rfl, hR, hb1⟩
  obtain ⟨A1, c1, rfl, hl1, hr1⟩ := C_of hR
  obtain ⟨hc_w1, hf_w1⟩ := bcell hb1
  have s_ := hb1.size
  (try simp at s_)
  (first | (have : w.heap.size < w1.heap.size := by omega) | skip)
  have : w.heap.size ≤ w1.heap.size := by omega
  (first | (have : w.heap.size + 1 < w1.heap.size := by omega) | skip)
  have : w.heap.size + 1 ≤ w1.heap.size := by omega
  clear s_
  go_wp2
  refine bodyPost_ret (v := .tuple #[.agg #[.slice A1 n n, .int .i64 (n : Nat)], .int .i64 0]) (by simp [results, Try.results20, go_sem, *]) rfl ⟨A1, n, rfl, ?_, (by repeat (first | exact Below.refl _ _ | apply below_alloc | apply pw_below_drewN | apply below_drew1 | (refine Below.setCell ?_ (by first | (simp; done) | (simp; omega) | omega) _) | (refine below_then ?_ (by first | (simp; done) | (simp; omega) | omega) hb1)))⟩
  exact C_pre (C_ofR (Kd.R_alloc (R_elder (R_elder hR (by simp) _) (by simp) _) _)) _ (by omega)
set_option maxHeartbeats 1000000 in
set_option maxRecDepth 100000 in
theorem crash_neg (A : Option Addr) (c : Nat) (l : List Int) (s k : Int) (w : World) (hr : Kd.C (Kd.int .u8) w A l.length l) (h0 : 0 ≤ s) (h1 : s ≤ l.length) (h2 : l.length ≤ 100000) (hk : k < 0) :
    Calls Try.prog 20 #[.agg #[.slice A l.length c, .int .i64 s], .int .i64 k] w fun e w' => e = .returned (.tuple #[.agg #[.slice none 0 0, .int .i64 0], .int .i64 6]) ∧ Below w.heap.size w w' := by
  go_enter Try.func20, Try.ntmps20
  go_wp2_with fail
  refine (open_yes A c l s _ (Kd.C_below hr (by repeat (first | exact Below.refl _ _ | apply below_alloc | apply pw_below_drewN | apply below_drew1 | (refine Below.setCell ?_ (by first | (simp; done) | (simp; omega) | omega) _) ))) h0 h1 h2).mono ?_
  rintro e w1 ⟨v1, rfl, hR, hb1⟩
  obtain ⟨A1, c1, rfl, hl1, hr1⟩ := C_of hR
  obtain ⟨hc_w1, hf_w1⟩ := bcell hb1
  have s_ := hb1.size
  (try simp at s_)
  (first | (have : w.heap.size < w1.heap.size := by omega) | skip)
  have : w.heap.size ≤ w1.heap.size := by omega
  (first | (have : w.heap.size + 1 < w1.heap.size := by omega) | skip)
  have : w.heap.size + 1 ≤ w1.heap.size := by omega
  clear s_
  go_wp2
  refine bodyPost_ret (v := .tuple #[.agg #[.slice none 0 0, .int .i64 0], .int .i64 6]) (by simp [results, Try.results20, go_sem, *]) rfl ⟨rfl, (by repeat (first | exact Below.refl _ _ | apply below_alloc | apply pw_below_drewN | apply below_drew1 | (refine Below.setCell ?_ (by first | (simp; done) | (simp; omega) | omega) _) | (refine below_then ?_ (by first | (simp; done) | (simp; omega) | omega) hb1)))⟩
set_option maxHeartbeats 1000000 in
set_option maxRecDepth 100000 in
theorem crash_no (A : Option Addr) (c : Nat) (l : List Int) (s k : Int) (w : World) (hb : ¬ (0 ≤ s ∧ s ≤ l.length ∧ l.length ≤ 100000)) (hl : l.length ≤ 140737488355328) :
    Calls Try.prog 20 #[.agg #[.slice A l.length c, .int .i64 s], .int .i64 k] w fun e w' => e = .returned (.tuple #[.agg #[.slice none 0 0, .int .i64 0], .int .i64 11]) ∧ Below w.heap.size w w' := by
  go_enter Try.func20, Try.ntmps20
  go_wp2_with fail
  refine (open_no A c l s _ hb hl).mono ?_
  rintro e w1 ⟨rfl, hb1⟩
  obtain ⟨hc_w1, hf_w1⟩ := bcell hb1
  have s_ := hb1.size
  (try simp at s_)
  (first | (have : w.heap.size < w1.heap.size := by omega) | skip)
  have : w.heap.size ≤ w1.heap.size := by omega
  (first | (have : w.heap.size + 1 < w1.heap.size := by omega) | skip)
  have : w.heap.size + 1 ≤ w1.heap.size := by omega
  clear s_
  go_wp2
  refine bodyPost_ret (v := .tuple #[.agg #[.slice none 0 0, .int .i64 0], .int .i64 11]) (by simp [results, Try.results20, go_sem, *]) rfl ⟨rfl, (by repeat (first | exact Below.refl _ _ | apply below_alloc | apply pw_below_drewN | apply below_drew1 | (refine Below.setCell ?_ (by first | (simp; done) | (simp; omega) | omega) _) | (refine below_then ?_ (by first | (simp; done) | (simp; omega) | omega) hb1)))⟩
set_option maxHeartbeats 1000000 in
set_option maxRecDepth 100000 in
theorem tcrash_rest (A : Option Addr) (c : Nat) (l : List Int) (s k : Int) (w : World) (hr : Kd.C (Kd.int .u8) w A l.length l) (hc : l.length ≤ c) (h0 : 0 ≤ s) (h1 : s ≤ l.length) (h2 : l.length ≤ 100000) (h4 : 0 ≤ k) (hk : (l.length : Int) - s ≤ k) (hk2 : k ≤ 9223372036854775807) :
    Calls Try.prog 21 #[.agg #[.slice A l.length c, .int .i64 s], .int .i64 k] w fun e w' => ∃ A1 c1, e = .returned (.tuple #[.agg #[.slice A1 l.length c1, .int .i64 (l.length : Nat)], .int .i64 0]) ∧ Kd.C (Kd.int .u8) w' A1 l.length (l.take l.length) ∧ Below w.heap.size w w' := by
  go_enter Try.func21, Try.ntmps21
  go_wp2_with fail
  refine (tapeMay_yes A c l s _ h0 h1 h2).mono ?_
  rintro e w1 ⟨rfl, hb1⟩
  obtain ⟨hc_w1, hf_w1⟩ := bcell hb1
  have s_ := hb1.size
  (try simp at s_)
  (first | (have : w.heap.size < w1.heap.size := by omega) | skip)
  have : w.heap.size ≤ w1.heap.size := by omega
  (first | (have : w.heap.size + 1 < w1.heap.size := by omega) | skip)
  have : w.heap.size + 1 ≤ w1.heap.size := by omega
  clear s_
  have hl2 : (l.take l.length).length = l.length := by rw [List.length_take]; omega
  have HL := Lib.hid hl2
  clear hl2
  go_wp2_with fail
  have g := joined_calls A c (l.take l.length) none 0 []
  rw [HL.out, List.append_nil] at g
  refine (g _ (C_pre (Kd.C_below hr (by repeat (first | exact Below.refl _ _ | apply below_alloc | apply pw_below_drewN | apply below_drew1 | (refine Below.setCell ?_ (by first | (simp; done) | (simp; omega) | omega) _) | (refine below_then ?_ (by first | (simp; done) | (simp; omega) | omega) hb1)))) _ (by omega)) (C_none _ _) (by simp; omega)).mono ?_
  clear g
  rintro e w2 ⟨v2, rfl, hR, hb2⟩
  have hR' := Kd.R_slice hR
  rw [HL.out] at hR'
  obtain ⟨A2, c2, rfl⟩ := hR'
  obtain ⟨hc_w2, hf_w2⟩ := bcell hb2
  have s_ := hb2.size
  (try simp at s_)
  (first | (have : w.heap.size < w2.heap.size := by omega) | skip)
  have : w.heap.size ≤ w2.heap.size := by omega
  (first | (have : w.heap.size + 1 < w2.heap.size := by omega) | skip)
  have : w.heap.size + 1 ≤ w2.heap.size := by omega
  (first | (have : w1.heap.size < w2.heap.size := by omega) | skip)
  have : w1.heap.size ≤ w2.heap.size := by omega
  clear s_
  go_wp2
  refine bodyPost_ret (v := .tuple #[.agg #[.slice A2 l.length c2, .int .i64 (l.length : Nat)], .int .i64 0]) (by simp [results, Try.results21, go_sem, *]) rfl ⟨A2, c2, rfl, ?_, (by repeat (first | exact Below.refl _ _ | apply below_alloc | apply pw_below_drewN | apply below_drew1 | (refine Below.setCell ?_ (by first | (simp; done) | (simp; omega) | omega) _) | (refine below_then ?_ (by first | (simp; done) | (simp; omega) | omega) hb2) | (refine below_then ?_ (by first | (simp; done) | (simp; omega) | omega) hb1)))⟩
  have q := C_ofR (R_elder (p := ⟨w.heap.size + 1, 1, none⟩) (R_elder (p := ⟨w.heap.size + 1, 0, none⟩) hR (by first | (simp; done) | (simp; omega)) (.slice A2 l.length c2)) (by first | (simp; done) | (simp; omega)) (.int .i64 (l.length : Nat)))
  rwa [HL.out] at q
set_option maxHeartbeats 1000000 in
set_option maxRecDepth 100000 in
theorem tcrash_part (A : Option Addr) (c : Nat) (l : List Int) (s k : Int) (n : Nat) (w : World) (hr : Kd.C (Kd.int .u8) w A l.length l) (hc : l.length ≤ c) (h0 : 0 ≤ s) (h1 : s ≤ l.length) (h2 : l.length ≤ 100000) (h4 : 0 ≤ k) (hk : k < (l.length : Int) - s) (e9 : s + k = (n : Nat)) :
    Calls Try.prog 21 #[.agg #[.slice A l.length c, .int .i64 s], .int .i64 k] w fun e w' => ∃ A1 c1, e = .returned (.tuple #[.agg #[.slice A1 n c1, .int .i64 (n : Nat)], .int .i64 0]) ∧ Kd.C (Kd.int .u8) w' A1 n (l.take n) ∧ Below w.heap.size w w' := by
  go_enter Try.func21, Try.ntmps21
  go_wp2_with fail
  refine (tapeMay_yes A c l s _ h0 h1 h2).mono ?_
  rintro e w1 ⟨rfl, hb1⟩
  obtain ⟨hc_w1, hf_w1⟩ := bcell hb1
  have s_ := hb1.size
  (try simp at s_)
  (first | (have : w.heap.size < w1.heap.size := by omega) | skip)
  have : w.heap.size ≤ w1.heap.size := by omega
  (first | (have : w.heap.size + 1 < w1.heap.size := by omega) | skip)
  have : w.heap.size + 1 ≤ w1.heap.size := by omega
  clear s_
  have hl2 : (l.take n).length = n := by rw [List.length_take]; omega
  have HL := Lib.hid hl2
  clear hl2
  go_wp2_with fail
  have g := joined_calls A c (l.take n) none 0 []
  rw [HL.out, List.append_nil] at g
  refine (g _ (C_pre (Kd.C_below hr (by repeat (first | exact Below.refl _ _ | apply below_alloc | apply pw_below_drewN | apply below_drew1 | (refine Below.setCell ?_ (by first | (simp; done) | (simp; omega) | omega) _) | (refine below_then ?_ (by first | (simp; done) | (simp; omega) | omega) hb1)))) _ (by omega)) (C_none _ _) (by simp; omega)).mono ?_
  clear g
  rintro e w2 ⟨v2, rfl, hR, hb2⟩
  have hR' := Kd.R_slice hR
  rw [HL.out] at hR'
  obtain ⟨A2, c2, rfl⟩ := hR'
  obtain ⟨hc_w2, hf_w2⟩ := bcell hb2
  have s_ := hb2.size
  (try simp at s_)
  (first | (have : w.heap.size < w2.heap.size := by omega) | skip)
  have : w.heap.size ≤ w2.heap.size := by omega
  (first | (have : w.heap.size + 1 < w2.heap.size := by omega) | skip)
  have : w.heap.size + 1 ≤ w2.heap.size := by omega
  (first | (have : w1.heap.size < w2.heap.size := by omega) | skip)
  have : w1.heap.size ≤ w2.heap.size := by omega
  clear s_
  go_wp2
  refine bodyPost_ret (v := .tuple #[.agg #[.slice A2 n c2, .int .i64 (n : Nat)], .int .i64 0]) (by simp [results, Try.results21, go_sem, *]) rfl ⟨A2, c2, rfl, ?_, (by repeat (first | exact Below.refl _ _ | apply below_alloc | apply pw_below_drewN | apply below_drew1 | (refine Below.setCell ?_ (by first | (simp; done) | (simp; omega) | omega) _) | (refine below_then ?_ (by first | (simp; done) | (simp; omega) | omega) hb2) | (refine below_then ?_ (by first | (simp; done) | (simp; omega) | omega) hb1)))⟩
  have q := C_ofR (R_elder (p := ⟨w.heap.size + 1, 1, none⟩) (R_elder (p := ⟨w.heap.size + 1, 0, none⟩) hR (by first | (simp; done) | (simp; omega)) (.slice A2 n c2)) (by first | (simp; done) | (simp; omega)) (.int .i64 (n : Nat)))
  rwa [HL.out] at q
set_option maxHeartbeats 1000000 in
set_option maxRecDepth 100000 in
theorem tcrash_neg (A : Option Addr) (c : Nat) (l : List Int) (s k : Int) (w : World) (hr : Kd.C (Kd.int .u8) w A l.length l) (h0 : 0 ≤ s) (h1 : s ≤ l.length) (h2 : l.length ≤ 100000) (hk : k < 0) :
    Calls Try.prog 21 #[.agg #[.slice A l.length c, .int .i64 s], .int .i64 k] w fun e w' => e = .returned (.tuple #[.agg #[.slice none 0 0, .int .i64 0], .int .i64 6]) ∧ Below w.heap.size w w' := by
  go_enter Try.func21, Try.ntmps21
  go_wp2_with fail
  refine (tapeMay_yes A c l s _ h0 h1 h2).mono ?_
  rintro e w1 ⟨rfl, hb1⟩
  obtain ⟨hc_w1, hf_w1⟩ := bcell hb1
  have s_ := hb1.size
  (try simp at s_)
  (first | (have : w.heap.size < w1.heap.size := by omega) | skip)
  have : w.heap.size ≤ w1.heap.size := by omega
  (first | (have : w.heap.size + 1 < w1.heap.size := by omega) | skip)
  have : w.heap.size + 1 ≤ w1.heap.size := by omega
  clear s_
  go_wp2
  refine bodyPost_ret (v := .tuple #[.agg #[.slice none 0 0, .int .i64 0], .int .i64 6]) (by simp [results, Try.results21, go_sem, *]) rfl ⟨rfl, (by repeat (first | exact Below.refl _ _ | apply below_alloc | apply pw_below_drewN | apply below_drew1 | (refine Below.setCell ?_ (by first | (simp; done) | (simp; omega) | omega) _) | (refine below_then ?_ (by first | (simp; done) | (simp; omega) | omega) hb1)))⟩
set_option maxHeartbeats 1000000 in
set_option maxRecDepth 100000 in
theorem tcrash_no (A : Option Addr) (c : Nat) (l : List Int) (s k : Int) (w : World) (hb : ¬ (0 ≤ s ∧ s ≤ l.length ∧ l.length ≤ 100000)) (hl : l.length ≤ 140737488355328) :
    Calls Try.prog 21 #[.agg #[.slice A l.length c, .int .i64 s], .int .i64 k] w fun e w' => e = .returned (.tuple #[.agg #[.slice none 0 0, .int .i64 0], .int .i64 11]) ∧ Below w.heap.size w w' := by
  go_enter Try.func21, Try.ntmps21
  go_wp2_with fail
  refine (tapeMay_no A c l s _ hb hl).mono ?_
  rintro e w1 ⟨rfl, hb1⟩
  obtain ⟨hc_w1, hf_w1⟩ := bcell hb1
  have s_ := hb1.size
  (try simp at s_)
  (first | (have : w.heap.size < w1.heap.size := by omega) | skip)
  have : w.heap.size ≤ w1.heap.size := by omega
  (first | (have : w.heap.size + 1 < w1.heap.size := by omega) | skip)
  have : w.heap.size + 1 ≤ w1.heap.size := by omega
  clear s_
  go_wp2
  refine bodyPost_ret (v := .tuple #[.agg #[.slice none 0 0, .int .i64 0], .int .i64 11]) (by simp [results, Try.results21, go_sem, *]) rfl ⟨rfl, (by repeat (first | exact Below.refl _ _ | apply below_alloc | apply pw_below_drewN | apply below_drew1 | (refine Below.setCell ?_ (by first | (simp; done) | (simp; omega) | omega) _) | (refine below_then ?_ (by first | (simp; done) | (simp; omega) | omega) hb1)))⟩

/-- What either function answers, in one form. -/
def CrashAns (l : List Int) (s k : Int) (w : World) (e : Ending) (w' : World) : Prop :=
  ∃ A1 c1, e = .returned (.tuple #[.agg #[.slice A1 l.length c1, .int .i64 s], .int .i64 k]) ∧ Kd.C (Kd.int .u8) w' A1 l.length l ∧ Below w.heap.size w w'
theorem ans_no {l : List Int} {s k : Int} {w w' : World} {e : Ending} (hm : ¬ tapeOk l s) (he : e = .returned (.tuple #[.agg #[.slice none 0 0, .int .i64 0], .int .i64 11])) (hb : Below w.heap.size w w') : CrashAns (crashL l s k) (crashS l s k) (crashE l s k) w e w' := by
  refine ⟨none, 0, ?_, ?_, hb⟩
  · rw [he]; simp [crashL, crashS, crashE, hm]
  · simp only [crashL, if_neg hm]; exact C_none _ _
theorem ans_neg {l : List Int} {s k : Int} {w w' : World} {e : Ending} (hm : tapeOk l s) (hk : k < 0) (he : e = .returned (.tuple #[.agg #[.slice none 0 0, .int .i64 0], .int .i64 6])) (hb : Below w.heap.size w w') : CrashAns (crashL l s k) (crashS l s k) (crashE l s k) w e w' := by
  refine ⟨none, 0, ?_, ?_, hb⟩
  · rw [he]; simp [crashL, crashS, crashE, hm, hk]
  · simp only [crashL, if_pos hm, if_pos hk]; exact C_none _ _
theorem ans_n {l : List Int} {s k : Int} {n : Nat} {w w' : World} {e : Ending} {A1 : Option Addr} {c1 : Nat} (hm : tapeOk l s) (hk : ¬ k < 0) (hn : crashN l s k = n) (hl : n ≤ l.length) (he : e = .returned (.tuple #[.agg #[.slice A1 n c1, .int .i64 (n : Nat)], .int .i64 0])) (hr : Kd.C (Kd.int .u8) w' A1 n (l.take n)) (hb : Below w.heap.size w w') : CrashAns (crashL l s k) (crashS l s k) (crashE l s k) w e w' := by
  have h2 : (l.take n).length = n := by rw [List.length_take]; omega
  refine ⟨A1, c1, ?_, ?_, hb⟩
  · rw [he]; simp only [crashL, crashS, crashE, if_pos hm, if_neg hk, hn, h2]
  · simp only [crashL, if_pos hm, if_neg hk, hn, h2]; exact hr
theorem crash_calls (A : Option Addr) (c : Nat) (l : List Int) (s k : Int) (w : World) (hr : Kd.C (Kd.int .u8) w A l.length l) (hl : l.length ≤ 140737488355328) (hk2 : k ≤ 9223372036854775807) :
    Calls Try.prog 20 #[.agg #[.slice A l.length c, .int .i64 s], .int .i64 k] w (CrashAns (crashL l s k) (crashS l s k) (crashE l s k) w) := by
  by_cases hm : tapeOk l s
  · have ⟨h0, h1, h2⟩ := hm
    by_cases hk : k < 0
    · exact (crash_neg A c l s k w hr h0 h1 h2 hk).mono fun e w' ⟨he, hb⟩ => ans_neg hm hk he hb
    · by_cases h3 : (l.length : Int) - s < k
      · exact (crash_rest A c l s k w hr h0 h1 h2 h3 hk2).mono fun e w' ⟨A1, c1, he, hr, hb⟩ => ans_n hm hk (by unfold crashN; rw [if_neg (by omega)]) (Nat.le_refl _) he hr hb
      · obtain ⟨n, hn⟩ := Int.eq_ofNat_of_zero_le (show 0 ≤ s + k by omega)
        exact (crash_part A c l s k n w hr h0 h1 h2 (by omega) (by omega) hn).mono fun e w' ⟨A1, c1, he, hr, hb⟩ => ans_n hm hk (by unfold crashN; split <;> omega) (by omega) he hr hb
  · exact (crash_no A c l s k w hm hl).mono fun e w' ⟨he, hb⟩ => ans_no hm he hb
theorem tcrash_calls (A : Option Addr) (c : Nat) (l : List Int) (s k : Int) (w : World) (hr : Kd.C (Kd.int .u8) w A l.length l) (hc : l.length ≤ c) (hl : l.length ≤ 140737488355328) (hk2 : k ≤ 9223372036854775807) :
    Calls Try.prog 21 #[.agg #[.slice A l.length c, .int .i64 s], .int .i64 k] w (CrashAns (crashL l s k) (crashS l s k) (crashE l s k) w) := by
  by_cases hm : tapeOk l s
  · have ⟨h0, h1, h2⟩ := hm
    by_cases hk : k < 0
    · exact (tcrash_neg A c l s k w hr h0 h1 h2 hk).mono fun e w' ⟨he, hb⟩ => ans_neg hm hk he hb
    · by_cases h3 : k < (l.length : Int) - s
      · obtain ⟨n, hn⟩ := Int.eq_ofNat_of_zero_le (show 0 ≤ s + k by omega)
        exact (tcrash_part A c l s k n w hr hc h0 h1 h2 (by omega) h3 hn).mono fun e w' ⟨A1, c1, he, hr, hb⟩ => ans_n hm hk (by unfold crashN; rw [if_pos h3]; omega) (by omega) he hr hb
      · exact (tcrash_rest A c l s k w hr hc h0 h1 h2 (by omega) (by omega) hk2).mono fun e w' ⟨A1, c1, he, hr, hb⟩ => ans_n hm hk (by unfold crashN; rw [if_neg h3]) (Nat.le_refl _) he hr hb
  · exact (tcrash_no A c l s k w hm hl).mono fun e w' ⟨he, hb⟩ => ans_no hm he hb
set_option maxHeartbeats 1000000 in
set_option maxRecDepth 100000 in
theorem bookCrashes_walk (A : Option Addr) (c : Nat) (l : List Int) (s k : Int) (w : World) (hr : Kd.C (Kd.int .u8) w A l.length l) (hc : l.length ≤ c) (hl : l.length ≤ 140737488351232) (hk2 : k ≤ 9223372036854775807) :
    Calls Try.prog 7 #[.agg #[.slice A l.length c, .int .i64 s], .int .i64 k] w fun e w' => e = .returned (.bool true) ∧ Below w.heap.size w w' := by
  have g1 := fun A c w hr => crash_calls A c l s k w hr (by omega) hk2
  have g2 := fun w hr => tcrash_calls A c l s k w hr hc (by omega) hk2
  generalize crashL l s k = l', crashS l s k = s', crashE l s k = e' at g1 g2
  have H1 := Lib.hid g1
  have H2 := Lib.hid g2
  clear g1 g2
  go_enter Try.func7, Try.ntmps7
  go_wp2_with fail
  refine (tapes_calls A c l s _ (Kd.C_below hr (by repeat (first | exact Below.refl _ _ | apply below_alloc | apply pw_below_drewN | apply below_drew1 | (refine Below.setCell ?_ (by first | (simp; done) | (simp; omega) | omega) _) ))) (by omega)).mono ?_
  rintro e w1 ⟨v1, rfl, hR1, hb1⟩
  obtain ⟨A1, c1, rfl, hl1, hr1⟩ := C_of hR1
  obtain ⟨hc_w1, hf_w1⟩ := bcell hb1
  have s_ := hb1.size
  (try simp at s_)
  (first | (have : w.heap.size < w1.heap.size := by omega) | skip)
  have : w.heap.size ≤ w1.heap.size := by omega
  clear s_
  go_wp2_with fail
  refine (H1.out A1 c1 _ (Kd.C_below hr1 (by repeat (first | exact Below.refl _ _ | apply below_alloc | apply pw_below_drewN | apply below_drew1 | (refine Below.setCell ?_ (by first | (simp; done) | (simp; omega) | omega) _) )))).mono ?_
  rintro e w2 ⟨A2, c2, rfl, hr2, hb2⟩
  obtain ⟨hc_w2, hf_w2⟩ := bcell hb2
  have s_ := hb2.size
  (try simp at s_)
  (first | (have : w.heap.size < w2.heap.size := by omega) | skip)
  have : w.heap.size ≤ w2.heap.size := by omega
  (first | (have : w1.heap.size < w2.heap.size := by omega) | skip)
  have : w1.heap.size ≤ w2.heap.size := by omega
  clear s_
  go_wp2_with fail
  refine (H2.out _ (Kd.C_below hr (by repeat (first | exact Below.refl _ _ | apply below_alloc | apply pw_below_drewN | apply below_drew1 | (refine Below.setCell ?_ (by first | (simp; done) | (simp; omega) | omega) _) | (refine below_then ?_ (by first | (simp; done) | (simp; omega) | omega) hb2) | (refine below_then ?_ (by first | (simp; done) | (simp; omega) | omega) hb1))))).mono ?_
  rintro e w3 ⟨A3, c3, rfl, hr3, hb3⟩
  obtain ⟨hc_w3, hf_w3⟩ := bcell hb3
  have s_ := hb3.size
  (try simp at s_)
  (first | (have : w.heap.size < w3.heap.size := by omega) | skip)
  have : w.heap.size ≤ w3.heap.size := by omega
  (first | (have : w1.heap.size < w3.heap.size := by omega) | skip)
  have : w1.heap.size ≤ w3.heap.size := by omega
  (first | (have : w2.heap.size < w3.heap.size := by omega) | skip)
  have : w2.heap.size ≤ w3.heap.size := by omega
  clear s_
  go_wp2_with fail
  refine (sameTape_calls A2 c2 A3 c3 l' s' _ (Kd.C_below hr2 (by repeat (first | exact Below.refl _ _ | apply below_alloc | apply pw_below_drewN | apply below_drew1 | (refine Below.setCell ?_ (by first | (simp; done) | (simp; omega) | omega) _) | (refine below_then ?_ (by first | (simp; done) | (simp; omega) | omega) hb3)))) (Kd.C_below hr3 (by repeat (first | exact Below.refl _ _ | apply below_alloc | apply pw_below_drewN | apply below_drew1 | (refine Below.setCell ?_ (by first | (simp; done) | (simp; omega) | omega) _) )))).mono ?_
  rintro e w4 ⟨rfl, hb4⟩
  obtain ⟨hc_w4, hf_w4⟩ := bcell hb4
  have s_ := hb4.size
  (try simp at s_)
  (first | (have : w.heap.size < w4.heap.size := by omega) | skip)
  have : w.heap.size ≤ w4.heap.size := by omega
  (first | (have : w1.heap.size < w4.heap.size := by omega) | skip)
  have : w1.heap.size ≤ w4.heap.size := by omega
  (first | (have : w2.heap.size < w4.heap.size := by omega) | skip)
  have : w2.heap.size ≤ w4.heap.size := by omega
  (first | (have : w3.heap.size < w4.heap.size := by omega) | skip)
  have : w3.heap.size ≤ w4.heap.size := by omega
  clear s_
  go_wp2_with fail
  refine (sameTape_calls A1 c1 A c l s _ (Kd.C_below hr1 (by repeat (first | exact Below.refl _ _ | apply below_alloc | apply pw_below_drewN | apply below_drew1 | (refine Below.setCell ?_ (by first | (simp; done) | (simp; omega) | omega) _) | (refine below_then ?_ (by first | (simp; done) | (simp; omega) | omega) hb4) | (refine below_then ?_ (by first | (simp; done) | (simp; omega) | omega) hb3) | (refine below_then ?_ (by first | (simp; done) | (simp; omega) | omega) hb2)))) (Kd.C_below hr (by repeat (first | exact Below.refl _ _ | apply below_alloc | apply pw_below_drewN | apply below_drew1 | (refine Below.setCell ?_ (by first | (simp; done) | (simp; omega) | omega) _) | (refine below_then ?_ (by first | (simp; done) | (simp; omega) | omega) hb4) | (refine below_then ?_ (by first | (simp; done) | (simp; omega) | omega) hb3) | (refine below_then ?_ (by first | (simp; done) | (simp; omega) | omega) hb2) | (refine below_then ?_ (by first | (simp; done) | (simp; omega) | omega) hb1))))).mono ?_
  rintro e w5 ⟨rfl, hb5⟩
  go_wp2_with fail
  go_ret
  exact ⟨(by first | rfl | (simp; done) | (simp [*]; done) | (rw [if_pos (by omega)]; first | rfl | (simp; done)) | (rw [if_neg (by omega)]; first | rfl | (simp; done)) | (simp; omega)), (by repeat (first | exact Below.refl _ _ | apply below_alloc | apply pw_below_drewN | apply below_drew1 | (refine Below.setCell ?_ (by first | (simp; done) | (simp; omega) | omega) _) | (refine below_then ?_ (by first | (simp; done) | (simp; omega) | omega) hb5) | (refine below_then ?_ (by first | (simp; done) | (simp; omega) | omega) hb4) | (refine below_then ?_ (by first | (simp; done) | (simp; omega) | omega) hb3) | (refine below_then ?_ (by first | (simp; done) | (simp; omega) | omega) hb2) | (refine below_then ?_ (by first | (simp; done) | (simp; omega) | omega) hb1)))⟩
end Go.Proofs.Ytioemcfadniokaa.H
