/- The walks of the reference's functions over tapes, and of the laws BookSyncs and BookCrashes. -/
import Derived.Test.YtioemcfadniokaaTapeA
namespace Go.Proofs.Ytioemcfadniokaa.H
open Go.RowKit Go.Proofs.YtioemcfadniokaaW.PrintWords Go.Proofs.YtioemcfadniokaaW.PrintLast Go.Proofs.YtioemcfadniokaaW.PrintMore Go.Proofs.Ytioemcfadniokaa.U
set_option linter.unusedVariables false
set_option linter.unusedSimpArgs false
set_option maxHeartbeats 1000000 in
set_option maxRecDepth 100000 in
theorem joined_calls (A : Option Addr) (c : Nat) (l : List Int) (A2 : Option Addr) (c2 : Nat) (l2 : List Int) (w : World) (hr : Kd.C (Kd.int .u8) w A l.length l) (hr2 : Kd.C (Kd.int .u8) w A2 l2.length l2) (hl : l.length + l2.length ≤ 140737488355328) :
    Calls Try.prog 37 #[.slice A l.length c, .slice A2 l2.length c2] w fun e w' => ∃ v : Value, e = .returned v ∧ Kd.R (Kd.int .u8) 5 w' w.heap.size (fun _ => True) v (l ++ l2) ∧ Below w.heap.size w w' := by
  go_enter Try.func37, Try.ntmps37
  go_wp2
  go_loopw [5, 6] (fun v i wr => ∃ k : Nat, k ≤ l.length ∧ i = .int .i64 k ∧ Kd.R (Kd.int .u8) 5 wr w.heap.size (fun _ => True) v (l.take k) ∧ Below w.heap.size w wr) (fun _ i _ => l.length - (intOf i).toNat)
  case atStart => exact ⟨0, Nat.zero_le _, rfl, Kd.R_nil _ _ _ _ _, Below.refl _ _⟩
  case round =>
    obtain ⟨k, hk, rfl, hR, hB⟩ := hrel
    by_cases hlt : k < l.length
    · obtain ⟨ad, e1, hx⟩ := int_at (Kd.C_below hr hB) k hlt
      subst e1
      have hts := Lib.hid (take_rd l k hlt)
      have hlen : (l.take k).length ≤ k := List.length_take_le _ _
      go_wp2_with (at_builtin; refine snoc_list rowU8 w.heap.size rfl _ _ rfl u5 (l.take k) (rd l k) [.int .u8 (rd l k)] rfl rfl rfl hR hB.size (by omega) ?_; intro v1 w1 hR1 hb1 hg1)
      go_roundw
      case rel => exact ⟨k + 1, by omega, by go_num, by rw [hts.out]; exact hR1, hB.trans hb1⟩
      case measure => simp [intOf]; omega
    · obtain rfl : k = l.length := by omega
      rw [List.take_length] at hR
      go_wp2
      go_loopw [5, 7] (fun v i wr => ∃ k : Nat, k ≤ l2.length ∧ i = .int .i64 k ∧ Kd.R (Kd.int .u8) 5 wr w.heap.size (fun _ => True) v (l ++ l2.take k) ∧ Below w.heap.size w wr) (fun _ i _ => l2.length - (intOf i).toNat)
      case atStart => exact ⟨0, Nat.zero_le _, rfl, by simpa using hR, hB⟩
      case round =>
        clear hR hB
        obtain ⟨k, hk, rfl, hR, hB⟩ := hrel
        by_cases hlt : k < l2.length
        · obtain ⟨ad, e1, hx⟩ := int_at (Kd.C_below hr2 hB) k hlt
          subst e1
          have hts := Lib.hid (take_rd l2 k hlt)
          have hlen : (l2.take k).length ≤ k := List.length_take_le _ _
          go_wp2_with (at_builtin; refine snoc_list rowU8 w.heap.size rfl _ _ rfl u5 (l ++ l2.take k) (rd l2 k) [.int .u8 (rd l2 k)] rfl rfl rfl hR hB.size (by simp; omega) ?_; intro v1 w1 hR1 hb1 hg1)
          go_roundw
          case rel => exact ⟨k + 1, by omega, by go_num, by rw [hts.out, ← List.append_assoc]; exact hR1, hB.trans hb1⟩
          case measure => simp [intOf]; omega
        · obtain rfl : k = l2.length := by omega
          rw [List.take_length] at hR
          go_wp2
          go_ret
          exact ⟨_, rfl, hR, hB⟩
set_option maxHeartbeats 1000000 in
set_option maxRecDepth 100000 in
theorem tapeMay_yes (A : Option Addr) (c : Nat) (l : List Int) (s : Int) (w : World) (h0 : 0 ≤ s) (h1 : s ≤ l.length) (h2 : l.length ≤ 100000) :
    Calls Try.prog 36 #[.agg #[.slice A l.length c, .int .i64 s]] w fun e w' => e = .returned (.bool true) ∧ Below w.heap.size w w' := by
  go_enter Try.func36, Try.ntmps36
  go_wp2_with (go_at_call 32; refine (in_calls _ _ _ _).mono ?_; rintro e w' ⟨rfl, rfl⟩)
  go_ret
  exact ⟨by simp [h0, h1], (by repeat (first | exact Below.refl _ _ | apply below_alloc | apply pw_below_drewN | apply below_drew1 | (refine Below.setCell ?_ (by first | (simp; done) | (simp; omega) | omega) _) ))⟩
set_option maxHeartbeats 1000000 in
set_option maxRecDepth 100000 in
theorem tapeMay_no (A : Option Addr) (c : Nat) (l : List Int) (s : Int) (w : World) (hb : ¬ (0 ≤ s ∧ s ≤ l.length ∧ l.length ≤ 100000)) (hl : l.length ≤ 140737488355328) :
    Calls Try.prog 36 #[.agg #[.slice A l.length c, .int .i64 s]] w fun e w' => e = .returned (.bool false) ∧ Below w.heap.size w w' := by
  by_cases h2 : l.length ≤ 100000
  all_goals
    go_enter Try.func36, Try.ntmps36
    go_wp2_with (go_at_call 32; refine (in_calls _ _ _ _).mono ?_; rintro e w' ⟨rfl, rfl⟩)
    go_ret
    exact ⟨by first | (simp; done) | (simp; omega), (by repeat (first | exact Below.refl _ _ | apply below_alloc | apply pw_below_drewN | apply below_drew1 | (refine Below.setCell ?_ (by first | (simp; done) | (simp; omega) | omega) _) ))⟩
set_option maxHeartbeats 1000000 in
set_option maxRecDepth 100000 in
theorem tapeSynced_yes (A : Option Addr) (c : Nat) (l : List Int) (s : Int) (w : World) (hr : Kd.C (Kd.int .u8) w A l.length l) (h0 : 0 ≤ s) (h1 : s ≤ l.length) (h2 : l.length ≤ 100000) :
    Calls Try.prog 18 #[.agg #[.slice A l.length c, .int .i64 s]] w fun e w' => ∃ v : Value, e = .returned (.tuple #[.agg #[v, .int .i64 l.length], .int .i64 0]) ∧ Kd.R (Kd.int .u8) 5 w' w.heap.size (fun _ => True) v l ∧ Below w.heap.size w w' := by
  go_enter Try.func18, Try.ntmps18
  go_wp2_with fail
  refine (tapeMay_yes A c l s _ h0 h1 h2).mono ?_
  rintro e w1 ⟨rfl, hb1⟩
  obtain ⟨hc, hf⟩ := bcell hb1
  have hz : w.heap.size + 1 < w1.heap.size := by have := hb1.size; simp at this; omega
  go_wp2
  have e0 : w1.cell? ⟨w.heap.size, 0, none⟩ = some (.slice A l.length c) := by rw [hc _ _ (by simp; omega)]; simp
  have e1 : w1.cell? ⟨w.heap.size, 1, none⟩ = some (.int .i64 s) := by rw [hc _ _ (by simp; omega)]; simp
  go_region_held3 (fun w' => w'.cell? ⟨w.heap.size, 0, none⟩ = some (.slice A l.length c) ∧ w'.cell? ⟨w.heap.size, 1, none⟩ = some (.int .i64 s))
    (first | go_keep | (refine ⟨?_, ?_⟩ <;> (rw [hc2 _ _ (by simp; omega)]; first | exact e0 | exact e1)))
    ((go_at_call 37; refine (joined_calls A c l none 0 [] _ (Kd.C_below hr (by repeat (first | exact Below.refl _ _ | apply below_alloc | apply pw_below_drewN | apply below_drew1 | (refine Below.setCell ?_ (by first | (simp; done) | (simp; omega) | omega) _) | (refine below_then ?_ (by first | (simp; done) | (simp; omega) | omega) hb1)))) (C_none _ _) (by simp; omega)).mono ?_; rintro e w2 ⟨v1, rfl, hR, hb2⟩; obtain ⟨A1, c1, rfl⟩ := Kd.R_slice hR; rw [List.append_nil] at hR; obtain ⟨hc2, hf2⟩ := bcell hb2;
      have d0 : w2.cell? ⟨w.heap.size + 1, 0, none⟩ = some (.slice none 0 0) := by rw [hc2 _ _ (by simp; omega)]; simp [hc];
      have d1 : w2.cell? ⟨w.heap.size + 1, 1, none⟩ = some (.int .i64 0) := by rw [hc2 _ _ (by simp; omega)]; simp [hc];
      have d2 : w2.frozen? ⟨w.heap.size + 1, 0, none⟩ = false := by rw [hf2 _ _ (by simp; omega)]; simp [hf];
      have d3 : w2.frozen? ⟨w.heap.size + 1, 1, none⟩ = false := by rw [hf2 _ _ (by simp; omega)]; simp [hf]))
  have hz2 : w1.heap.size ≤ w2.heap.size := by have := hb2.size; simp at this; omega
  go_wp2
  refine bodyPost_ret (v := .tuple #[.agg #[.slice A1 l.length c1, .int .i64 l.length], .int .i64 0]) (by simp [results, Try.results18, go_sem, *]) rfl ⟨_, rfl, ?_, ?_⟩
  · exact Kd.R_lower (R_elder (R_elder hR (by simp; omega) _) (by simp; omega) _) (by simp; omega)
  · exact (by repeat (first | exact Below.refl _ _ | apply below_alloc | apply pw_below_drewN | apply below_drew1 | (refine Below.setCell ?_ (by first | (simp; done) | (simp; omega) | omega) _) | (refine below_then ?_ (by first | (simp; done) | (simp; omega) | omega) hb2) | (refine below_then ?_ (by first | (simp; done) | (simp; omega) | omega) hb1)))
set_option maxHeartbeats 1000000 in
set_option maxRecDepth 100000 in
theorem tapeSynced_no (A : Option Addr) (c : Nat) (l : List Int) (s : Int) (w : World) (hb : ¬ (0 ≤ s ∧ s ≤ l.length ∧ l.length ≤ 100000)) (hl : l.length ≤ 140737488355328) :
    Calls Try.prog 18 #[.agg #[.slice A l.length c, .int .i64 s]] w fun e w' => e = .returned (.tuple #[.agg #[.slice none 0 0, .int .i64 0], .int .i64 11]) ∧ Below w.heap.size w w' := by
  go_enter Try.func18, Try.ntmps18
  go_wp2_with fail
  refine (tapeMay_no A c l s _ hb hl).mono ?_
  rintro e w1 ⟨rfl, hb1⟩
  obtain ⟨hc, hf⟩ := bcell hb1
  have hz : w.heap.size + 1 < w1.heap.size := by have := hb1.size; simp at this; omega
  go_wp2
  refine bodyPost_ret (v := .tuple #[.agg #[.slice none 0 0, .int .i64 0], .int .i64 11]) (by simp [results, Try.results18, go_sem, *]) rfl ⟨rfl, (by repeat (first | exact Below.refl _ _ | apply below_alloc | apply pw_below_drewN | apply below_drew1 | (refine Below.setCell ?_ (by first | (simp; done) | (simp; omega) | omega) _) | (refine below_then ?_ (by first | (simp; done) | (simp; omega) | omega) hb1)))⟩

set_option maxHeartbeats 1000000 in
set_option maxRecDepth 100000 in
theorem bookSyncs_walk (A : Option Addr) (c : Nat) (l : List Int) (s : Int) (w : World) (hr : Kd.C (Kd.int .u8) w A l.length l) (hl : l.length ≤ 140737488351232) :
    Calls Try.prog 6 #[.agg #[.slice A l.length c, .int .i64 s]] w fun e w' => e = .returned (.bool true) ∧ Below w.heap.size w w' := by
  by_cases hm : 0 ≤ s ∧ s ≤ l.length ∧ l.length ≤ 100000
  · obtain ⟨h0, h1, h2⟩ := hm
    go_enter Try.func6, Try.ntmps6
    go_wp2_with fail
    refine (tapes_calls A c l s _ (Kd.C_below hr (by repeat (first | exact Below.refl _ _ | apply below_alloc | apply pw_below_drewN | apply below_drew1 | (refine Below.setCell ?_ (by first | (simp; done) | (simp; omega) | omega) _) ))) (by omega)).mono ?_
    rintro e w1 ⟨v1, rfl, hR1, hb1⟩
    obtain ⟨A1, c1, rfl, hl1, hr1⟩ := C_of hR1
    obtain ⟨hc_w1, hf_w1⟩ := bcell hb1
    have s_ := hb1.size
    (try simp at s_)
    (first | (have : w.heap.size < w1.heap.size := by omega) | skip)
    have : w.heap.size ≤ w1.heap.size := by omega
    clear s_
    go_wp2_with fail
    refine (sync_yes A1 c1 l s _ (Kd.C_below hr1 (by repeat (first | exact Below.refl _ _ | apply below_alloc | apply pw_below_drewN | apply below_drew1 | (refine Below.setCell ?_ (by first | (simp; done) | (simp; omega) | omega) _) ))) h0 h1 h2).mono ?_
    rintro e w2 ⟨v2, rfl, hR2, hb2⟩
    obtain ⟨A2, c2, rfl, hl2, hr2⟩ := C_of hR2
    obtain ⟨hc_w2, hf_w2⟩ := bcell hb2
    have s_ := hb2.size
    (try simp at s_)
    (first | (have : w.heap.size < w2.heap.size := by omega) | skip)
    have : w.heap.size ≤ w2.heap.size := by omega
    (first | (have : w1.heap.size < w2.heap.size := by omega) | skip)
    have : w1.heap.size ≤ w2.heap.size := by omega
    clear s_
    go_wp2_with fail
    refine (tapeSynced_yes A c l s _ (Kd.C_below hr (by repeat (first | exact Below.refl _ _ | apply below_alloc | apply pw_below_drewN | apply below_drew1 | (refine Below.setCell ?_ (by first | (simp; done) | (simp; omega) | omega) _) | (refine below_then ?_ (by first | (simp; done) | (simp; omega) | omega) hb2) | (refine below_then ?_ (by first | (simp; done) | (simp; omega) | omega) hb1)))) h0 h1 h2).mono ?_
    rintro e w3 ⟨v3, rfl, hR3, hb3⟩
    obtain ⟨A3, c3, rfl, hl3, hr3⟩ := C_of hR3
    obtain ⟨hc_w3, hf_w3⟩ := bcell hb3
    have s_ := hb3.size
    (try simp at s_)
    (first | (have : w.heap.size < w3.heap.size := by omega) | skip)
    have : w.heap.size ≤ w3.heap.size := by omega
    (first | (have : w1.heap.size < w3.heap.size := by omega) | skip)
    have : w1.heap.size ≤ w3.heap.size := by omega
    (first | (have : w2.heap.size < w3.heap.size := by omega) | skip)
    have : w2.heap.size ≤ w3.heap.size := by omega
    clear s_
    go_wp2_with fail
    refine (sameTape_calls A2 c2 A3 c3 l l.length _ (Kd.C_below hr2 (by repeat (first | exact Below.refl _ _ | apply below_alloc | apply pw_below_drewN | apply below_drew1 | (refine Below.setCell ?_ (by first | (simp; done) | (simp; omega) | omega) _) | (refine below_then ?_ (by first | (simp; done) | (simp; omega) | omega) hb3)))) (Kd.C_below hr3 (by repeat (first | exact Below.refl _ _ | apply below_alloc | apply pw_below_drewN | apply below_drew1 | (refine Below.setCell ?_ (by first | (simp; done) | (simp; omega) | omega) _) )))).mono ?_
    rintro e w4 ⟨rfl, hb4⟩
    obtain ⟨hc_w4, hf_w4⟩ := bcell hb4
    have s_ := hb4.size
    (try simp at s_)
    (first | (have : w.heap.size < w4.heap.size := by omega) | skip)
    have : w.heap.size ≤ w4.heap.size := by omega
    (first | (have : w1.heap.size < w4.heap.size := by omega) | skip)
    have : w1.heap.size ≤ w4.heap.size := by omega
    (first | (have : w2.heap.size < w4.heap.size := by omega) | skip)
    have : w2.heap.size ≤ w4.heap.size := by omega
    (first | (have : w3.heap.size < w4.heap.size := by omega) | skip)
    have : w3.heap.size ≤ w4.heap.size := by omega
    clear s_
    go_wp2_with fail
    refine (sameTape_calls A1 c1 A c l s _ (Kd.C_below hr1 (by repeat (first | exact Below.refl _ _ | apply below_alloc | apply pw_below_drewN | apply below_drew1 | (refine Below.setCell ?_ (by first | (simp; done) | (simp; omega) | omega) _) | (refine below_then ?_ (by first | (simp; done) | (simp; omega) | omega) hb4) | (refine below_then ?_ (by first | (simp; done) | (simp; omega) | omega) hb3) | (refine below_then ?_ (by first | (simp; done) | (simp; omega) | omega) hb2)))) (Kd.C_below hr (by repeat (first | exact Below.refl _ _ | apply below_alloc | apply pw_below_drewN | apply below_drew1 | (refine Below.setCell ?_ (by first | (simp; done) | (simp; omega) | omega) _) | (refine below_then ?_ (by first | (simp; done) | (simp; omega) | omega) hb4) | (refine below_then ?_ (by first | (simp; done) | (simp; omega) | omega) hb3) | (refine below_then ?_ (by first | (simp; done) | (simp; omega) | omega) hb2) | (refine below_then ?_ (by first | (simp; done) | (simp; omega) | omega) hb1))))).mono ?_
    rintro e w5 ⟨rfl, hb5⟩
    go_wp2_with fail
    go_ret
    exact ⟨by simp, (by repeat (first | exact Below.refl _ _ | apply below_alloc | apply pw_below_drewN | apply below_drew1 | (refine Below.setCell ?_ (by first | (simp; done) | (simp; omega) | omega) _) | (refine below_then ?_ (by first | (simp; done) | (simp; omega) | omega) hb5) | (refine below_then ?_ (by first | (simp; done) | (simp; omega) | omega) hb4) | (refine below_then ?_ (by first | (simp; done) | (simp; omega) | omega) hb3) | (refine below_then ?_ (by first | (simp; done) | (simp; omega) | omega) hb2) | (refine below_then ?_ (by first | (simp; done) | (simp; omega) | omega) hb1)))⟩
  · go_enter Try.func6, Try.ntmps6
    go_wp2_with fail
    refine (tapes_calls A c l s _ (Kd.C_below hr (by repeat (first | exact Below.refl _ _ | apply below_alloc | apply pw_below_drewN | apply below_drew1 | (refine Below.setCell ?_ (by first | (simp; done) | (simp; omega) | omega) _) ))) (by omega)).mono ?_
    rintro e w1 ⟨v1, rfl, hR1, hb1⟩
    obtain ⟨A1, c1, rfl, hl1, hr1⟩ := C_of hR1
    obtain ⟨hc_w1, hf_w1⟩ := bcell hb1
    have s_ := hb1.size
    (try simp at s_)
    (first | (have : w.heap.size < w1.heap.size := by omega) | skip)
    have : w.heap.size ≤ w1.heap.size := by omega
    clear s_
    go_wp2_with fail
    refine (sync_no A1 c1 l s _ hm (by omega)).mono ?_
    rintro e w2 ⟨rfl, hb2⟩
    obtain ⟨hc_w2, hf_w2⟩ := bcell hb2
    have s_ := hb2.size
    (try simp at s_)
    (first | (have : w.heap.size < w2.heap.size := by omega) | skip)
    have : w.heap.size ≤ w2.heap.size := by omega
    (first | (have : w1.heap.size < w2.heap.size := by omega) | skip)
    have : w1.heap.size ≤ w2.heap.size := by omega
    clear s_
    go_wp2_with fail
    refine (tapeSynced_no A c l s _ hm (by omega)).mono ?_
    rintro e w3 ⟨rfl, hb3⟩
    obtain ⟨hc_w3, hf_w3⟩ := bcell hb3
    have s_ := hb3.size
    (try simp at s_)
    (first | (have : w.heap.size < w3.heap.size := by omega) | skip)
    have : w.heap.size ≤ w3.heap.size := by omega
    (first | (have : w1.heap.size < w3.heap.size := by omega) | skip)
    have : w1.heap.size ≤ w3.heap.size := by omega
    (first | (have : w2.heap.size < w3.heap.size := by omega) | skip)
    have : w2.heap.size ≤ w3.heap.size := by omega
    clear s_
    go_wp2_with fail
    refine (sameTape_calls none 0 none 0 [] 0 _ (C_none _ _) (C_none _ _)).mono ?_
    rintro e w4 ⟨rfl, hb4⟩
    obtain ⟨hc_w4, hf_w4⟩ := bcell hb4
    have s_ := hb4.size
    (try simp at s_)
    (first | (have : w.heap.size < w4.heap.size := by omega) | skip)
    have : w.heap.size ≤ w4.heap.size := by omega
    (first | (have : w1.heap.size < w4.heap.size := by omega) | skip)
    have : w1.heap.size ≤ w4.heap.size := by omega
    (first | (have : w2.heap.size < w4.heap.size := by omega) | skip)
    have : w2.heap.size ≤ w4.heap.size := by omega
    (first | (have : w3.heap.size < w4.heap.size := by omega) | skip)
    have : w3.heap.size ≤ w4.heap.size := by omega
    clear s_
    go_wp2_with fail
    refine (sameTape_calls A1 c1 A c l s _ (Kd.C_below hr1 (by repeat (first | exact Below.refl _ _ | apply below_alloc | apply pw_below_drewN | apply below_drew1 | (refine Below.setCell ?_ (by first | (simp; done) | (simp; omega) | omega) _) | (refine below_then ?_ (by first | (simp; done) | (simp; omega) | omega) hb4) | (refine below_then ?_ (by first | (simp; done) | (simp; omega) | omega) hb3) | (refine below_then ?_ (by first | (simp; done) | (simp; omega) | omega) hb2)))) (Kd.C_below hr (by repeat (first | exact Below.refl _ _ | apply below_alloc | apply pw_below_drewN | apply below_drew1 | (refine Below.setCell ?_ (by first | (simp; done) | (simp; omega) | omega) _) | (refine below_then ?_ (by first | (simp; done) | (simp; omega) | omega) hb4) | (refine below_then ?_ (by first | (simp; done) | (simp; omega) | omega) hb3) | (refine below_then ?_ (by first | (simp; done) | (simp; omega) | omega) hb2) | (refine below_then ?_ (by first | (simp; done) | (simp; omega) | omega) hb1))))).mono ?_
    rintro e w5 ⟨rfl, hb5⟩
    go_wp2_with fail
    go_ret
    exact ⟨by simp, (by repeat (first | exact Below.refl _ _ | apply below_alloc | apply pw_below_drewN | apply below_drew1 | (refine Below.setCell ?_ (by first | (simp; done) | (simp; omega) | omega) _) | (refine below_then ?_ (by first | (simp; done) | (simp; omega) | omega) hb5) | (refine below_then ?_ (by first | (simp; done) | (simp; omega) | omega) hb4) | (refine below_then ?_ (by first | (simp; done) | (simp; omega) | omega) hb3) | (refine below_then ?_ (by first | (simp; done) | (simp; omega) | omega) hb2) | (refine below_then ?_ (by first | (simp; done) | (simp; omega) | omega) hb1)))⟩
end Go.Proofs.Ytioemcfadniokaa.H
