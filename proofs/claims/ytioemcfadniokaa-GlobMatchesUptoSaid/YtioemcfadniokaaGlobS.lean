/- Patterns: glob.Match at every kind; the law's walk. -/
import Derived.Test.YtioemcfadniokaaGlobR
namespace Go.Proofs.Ytioemcfadniokaa.H
open Go.RowKit Go.Proofs.YtioemcfadniokaaW.PrintWords Go.Proofs.YtioemcfadniokaaW.PrintLast Go.Proofs.YtioemcfadniokaaW.PrintMore Go.Proofs.Ytioemcfadniokaa.U
set_option linter.unusedVariables false
set_option linter.unusedSimpArgs false
set_option maxHeartbeats 1000000 in
set_option maxRecDepth 100000 in
theorem match_calls (k : Int) (s p : ByteArray) (m : Int) (w : World) (hm : w.cell? ⟨0, 0, none⟩ = some (.int .i64 m)) (hg : 0 < w.heap.size) :
    Calls Try.prog 30 #[.int .i64 k, .string s, .string p] w fun e w' => e = .returned (.tuple #[.bool (matchV k s p), .int .i64 (matchE k s p)]) ∧ Below w.heap.size w w' := by
  rcases (by omega : ¬ (1 ≤ k ∧ k ≤ 3) ∨ (1 ≤ k ∧ k ≤ 3 ∧ 2000 < s.size) ∨ (1 ≤ k ∧ k ≤ 3 ∧ s.size ≤ 2000 ∧ 100 < p.size) ∨ (1 ≤ k ∧ k ≤ 3 ∧ s.size ≤ 2000 ∧ p.size ≤ 100)) with h | ⟨h1, h2, h3⟩ | ⟨h1, h2, h3, h4⟩ | ⟨h1, h2, h3, h4⟩
  · unfold matchV matchE
    rw [if_neg (by omega), if_neg h]
    rcases (by omega : k < 1 ∨ (1 ≤ k ∧ 3 < k)) with h5 | ⟨h5, h6⟩
    all_goals
      go_enter Try.func30, Try.ntmps30
      go_wp2_with fail
      refine bodyPost_ret (v := .tuple #[.bool false, .int .i64 2]) (by simp [results, Try.results30, go_sem, *]) rfl ⟨rfl, (by repeat (first | exact Below.refl _ _ | apply below_alloc | apply pw_below_drewN | apply below_drew1 | (refine Below.setCell ?_ (by first | (simp; done) | (simp; omega) | omega) _) ))⟩
  · unfold matchV matchE
    rw [if_neg (by omega), if_pos ⟨h1, h2⟩, if_neg (by omega)]
    have i1 : (2000 : Int) < s.size := by omega
    go_enter Try.func30, Try.ntmps30
    go_wp2_with fail
    refine bodyPost_ret (v := .tuple #[.bool false, .int .i64 1]) (by simp [results, Try.results30, go_sem, *]) rfl ⟨rfl, (by repeat (first | exact Below.refl _ _ | apply below_alloc | apply pw_below_drewN | apply below_drew1 | (refine Below.setCell ?_ (by first | (simp; done) | (simp; omega) | omega) _) ))⟩
  · unfold matchV matchE
    rw [if_neg (by omega), if_pos ⟨h1, h2⟩, if_neg (by omega)]
    have i1 : ¬ (2000 : Int) < s.size := by omega
    have i2 : (100 : Int) < p.size := by omega
    go_enter Try.func30, Try.ntmps30
    go_wp2_with fail
    refine bodyPost_ret (v := .tuple #[.bool false, .int .i64 1]) (by simp [results, Try.results30, go_sem, *]) rfl ⟨rfl, (by repeat (first | exact Below.refl _ _ | apply below_alloc | apply pw_below_drewN | apply below_drew1 | (refine Below.setCell ?_ (by first | (simp; done) | (simp; omega) | omega) _) ))⟩
  · rcases (by omega : k = 1 ∨ k = 2 ∨ k = 3) with rfl | rfl | rfl
    · have hv : matchV 1 s p = ((lowS s).toList == (lowS p).toList) := by unfold matchV; rw [if_pos ⟨h1, h2, h3, h4⟩]; rfl
      have he : matchE 1 s p = 0 := by unfold matchE; rw [if_pos ⟨h1, h2⟩, if_pos ⟨h3, h4⟩]
      rw [hv, he]
      clear hv he
      have H1 := fun w => fold_calls s w (by omega)
      have H2 := fun w => fold_calls p w (by omega)
      generalize lowS s = a at *
      generalize lowS p = b at *
      have H1 := Lib.hid H1
      have H2 := Lib.hid H2
      have i1 : ¬ (2000 : Int) < s.size := by omega
      have i2 : ¬ (100 : Int) < p.size := by omega
      go_enter Try.func30, Try.ntmps30
      go_wp2_with fail
      refine (H1.out _).mono ?_
      rintro e w1 ⟨rfl, hb1⟩
      have hz1 := hb1.size
      go_wp2_with fail
      refine (H2.out _).mono ?_
      rintro e w2 ⟨rfl, hb2⟩
      go_wp2_with fail
      refine bodyPost_ret (v := .tuple #[.bool (a.toList == b.toList), .int .i64 0]) (by simp [results, Try.results30, go_sem, *]) rfl ⟨rfl, (by repeat (first | exact Below.refl _ _ | apply below_alloc | apply pw_below_drewN | apply below_drew1 | (refine Below.setCell ?_ (by first | (simp; done) | (simp; omega) | omega) _) | (refine below_then ?_ (by first | (simp; done) | (simp; omega) | omega) hb2) | (refine below_then ?_ (by first | (simp; done) | (simp; omega) | omega) hb1)))⟩
    · have hv : matchV 2 s p = insideV (lowS s) (lowS p) := by unfold matchV; rw [if_pos ⟨h1, h2, h3, h4⟩]; rfl
      have he : matchE 2 s p = 0 := by unfold matchE; rw [if_pos ⟨h1, h2⟩, if_pos ⟨h3, h4⟩]
      rw [hv, he]
      clear hv he
      have H1 := fun w => fold_calls s w (by omega)
      have H2 := fun w => fold_calls p w (by omega)
      have z1 := lowS_size s
      generalize lowS s = a at *
      generalize lowS p = b at *
      have H3 : ∀ w, w.cell? ⟨0, 0, none⟩ = some (.int .i64 m) → Calls Try.prog 45 #[.string a, .string b] w fun e w' => e = .returned (.bool (insideV a b)) ∧ w = w' := fun w hm => (Try.strings_Contains a b m w (by omega) hm).mono fun e w' h => ⟨h.1, h.2.symm⟩
      generalize insideV a b = r at *
      have H1 := Lib.hid H1
      have H2 := Lib.hid H2
      have H3 := Lib.hid H3
      have i1 : ¬ (2000 : Int) < s.size := by omega
      have i2 : ¬ (100 : Int) < p.size := by omega
      go_enter Try.func30, Try.ntmps30
      go_wp2_with fail
      refine (H1.out _).mono ?_
      rintro e w1 ⟨rfl, hb1⟩
      have hz1 := hb1.size
      go_wp2_with fail
      refine (H2.out _).mono ?_
      rintro e w2 ⟨rfl, hb2⟩
      go_wp2_with fail
      refine (H3.out _ (cell_below (B := w.heap.size) (by repeat (first | exact Below.refl _ _ | apply below_alloc | apply pw_below_drewN | apply below_drew1 | (refine Below.setCell ?_ (by first | (simp; done) | (simp; omega) | omega) _) | (refine below_then ?_ (by first | (simp; done) | (simp; omega) | omega) hb2) | (refine below_then ?_ (by first | (simp; done) | (simp; omega) | omega) hb1))) hm hg)).mono ?_
      rintro e w3 ⟨rfl, rfl⟩
      go_wp2_with fail
      refine bodyPost_ret (v := .tuple #[.bool r, .int .i64 0]) (by simp [results, Try.results30, go_sem, *]) rfl ⟨rfl, (by repeat (first | exact Below.refl _ _ | apply below_alloc | apply pw_below_drewN | apply below_drew1 | (refine Below.setCell ?_ (by first | (simp; done) | (simp; omega) | omega) _) | (refine below_then ?_ (by first | (simp; done) | (simp; omega) | omega) hb2) | (refine below_then ?_ (by first | (simp; done) | (simp; omega) | omega) hb1)))⟩
    · have hv : matchV 3 s p = fitsV (piecesOf (bytesOf (lowS p))) (bytesOf (lowS s)) := by unfold matchV; rw [if_pos ⟨h1, h2, h3, h4⟩]; rfl
      have he : matchE 3 s p = 0 := by unfold matchE; rw [if_pos ⟨h1, h2⟩, if_pos ⟨h3, h4⟩]
      rw [hv, he]
      exact match3_calls s p w h3 h4
set_option maxHeartbeats 1000000 in
set_option maxRecDepth 100000 in
theorem globMatches_walk (k : Int) (s p : ByteArray) (m : Int) (w : World) (hm : w.cell? ⟨0, 0, none⟩ = some (.int .i64 m)) (hg : 0 < w.heap.size) :
    Calls Try.prog 11 #[.int .i64 k, .string s, .string p] w fun e w' => e = .returned (.bool true) ∧ Below w.heap.size w w' := by
  have H1 := match_calls k s p m w hm hg
  have H2 := fun w => matchOf_calls k s p w
  generalize matchV k s p = r at *
  generalize matchE k s p = q at *
  have H1 := Lib.hid H1
  have H2 := Lib.hid H2
  cases r
  all_goals
    go_enter Try.func11, Try.ntmps11
    go_wp2_with fail
    refine H1.out.mono ?_
    rintro e w1 ⟨rfl, hb1⟩
    have hz1 := hb1.size
    go_wp2_with fail
    refine (H2.out _).mono ?_
    rintro e w2 ⟨rfl, hb2⟩
    go_wp2_with fail
    go_ret
    exact ⟨(by first | rfl | (simp; done) | (simp [*]; done) | (rw [if_pos (by omega)]; first | rfl | (simp; done)) | (rw [if_neg (by omega)]; first | rfl | (simp; done)) | (simp; omega)), (by repeat (first | exact Below.refl _ _ | apply below_alloc | apply pw_below_drewN | apply below_drew1 | (refine Below.setCell ?_ (by first | (simp; done) | (simp; omega) | omega) _) | (refine below_then ?_ (by first | (simp; done) | (simp; omega) | omega) hb2) | (refine below_then ?_ (by first | (simp; done) | (simp; omega) | omega) hb1)))⟩
end Go.Proofs.Ytioemcfadniokaa.H
