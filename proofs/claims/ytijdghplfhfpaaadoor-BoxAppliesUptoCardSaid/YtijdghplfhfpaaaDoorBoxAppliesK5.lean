/- The claim BoxAppliesUptoCardSaid, part 5 of 6. -/
import Derived.Test.YtijdghplfhfpaaaDoorBoxAppliesK4
/- Boxes: the reference's entered: Create, no such box, Append. -/
namespace Go.Proofs.YtijdghplfhfpaaaDoor.H
open Go.RowKit Go.Proofs.YtijdghplfhfpaaaDoorW.PrintWords Go.Proofs.YtijdghplfhfpaaaDoorW.PrintLast Go.Proofs.YtijdghplfhfpaaaDoor.U
set_option linter.unusedVariables false
set_option linter.unusedSimpArgs false
theorem Rd.stored {Z : Nat → Prop} {w : World} {A A2 : Option Addr} {bs : List ABox} {es : List AEntry} (h : Rd Z w A bs A2 es) {r : Nat} (hr : Z r) (j : Nat) (u : Value) : Rd Z (w.setCell ⟨r, j, none⟩ u) A bs A2 es :=
  h.step (by simp) (fun k hz _ => Below.heap_setCell w ⟨r, j, none⟩ u k (fun he => hz (by rw [he]; exact hr))) (fun _ _ h => h)
theorem Rd.less {Z Z' : Nat → Prop} {w : World} {A A2 : Option Addr} {bs : List ABox} {es : List AEntry} (h : Rd Z w A bs A2 es) (hZ : ∀ k, Z' k → Z k) : Rd Z' w A bs A2 es := h.step (Nat.le_refl _) (fun _ _ _ => rfl) (fun k _ hz => hZ k hz)
set_option maxHeartbeats 2000000 in
set_option maxRecDepth 100000 in
theorem entered_create (Z : Nat → Prop) (bx : ByteArray) (u f : Int) (to_ tx : ByteArray) (A : Option Addr) (c : Nat) (bs : List ABox) (A2 : Option Addr) (c2 : Nat) (es : List AEntry) (w : World) (hrd : Rd Z w A bs A2 es) (hZ : ∀ k, Z k → k < w.heap.size) (hc : bs.length ≤ c) (hinv : InvS bs es) :
    Calls Tryd.prog 57 #[.agg #[.slice A bs.length c, .slice A2 es.length c2], .agg #[.int .i64 1, .string bx, .int .i64 u, .int .i64 f, .string to_, .string tx]] w (PostSt Z w (entV bs es ⟨1, bx, u, f, to_, tx⟩)) := by
  obtain ⟨hr, hr2⟩ := hrd.now
  have hev : entV bs es ⟨1, bx, u, f, to_, tx⟩ = if 0 ≤ findG bx bs 0 then (10, bs, es) else if 5 ≤ bs.length then (5, bs, es) else (0, bs ++ [(bx, 1, [])], es) := (if_neg (by show ¬ ((1 : Int) = 6); decide)).trans (if_pos rfl)
  rw [hev]
  clear hev
  obtain ⟨fi, hfi⟩ : ∃ fi, findG bx bs 0 = fi := ⟨_, rfl⟩
  rw [hfi]
  by_cases hf0 : 0 ≤ fi
  · rw [if_pos hf0]
    obtain ⟨W3, hW3⟩ : ∃ W3 : World, W3 = ((w.alloc (.cells #[.slice (A) bs.length c, .slice A2 es.length c2] 25)).alloc (.cells #[.int .i64 1, .string bx, .int .i64 u, .int .i64 f, .string to_, .string tx] 40)).alloc (.cells #[.slice none 0 0, .slice none 0 0] 25) := ⟨_, rfl⟩
    have hP0 : Blk W3 w.heap.size [.slice (A) bs.length c, .slice A2 es.length c2] := by rw [hW3]; exact ((Blk.made w _ _).alloc _).alloc _
    have hX0 : Blk W3 (w.heap.size + 1) [.int .i64 1, .string bx, .int .i64 u, .int .i64 f, .string to_, .string tx] := by rw [hW3]; exact (Blk.made_at _ _ _ (by simp)).alloc _
    have hQ0 : Blk W3 (w.heap.size + 1 + 1) [.slice none 0 0, .slice none 0 0] := by rw [hW3]; exact Blk.made_at _ _ _ (by simp)
    have hB0 : Below w.heap.size w W3 := by rw [hW3]; exact (by repeat (first | exact Below.refl _ _ | apply below_alloc | apply pw_below_drewN | apply below_drew1 | (refine Below.setCell ?_ (by first | (simp; done) | (simp; omega) | omega) _) ))
    have hz0 : W3.heap.size = w.heap.size + 1 + 1 + 1 := by rw [hW3]; simp
    replace hW3 := Lib.hid hW3
    have hi1 := hinv.1
    have hi2 := hinv.2.1
    have hb30 : ∀ b ∈ bs, b.2.2.length ≤ 1048576 := fun b hb => by have := (hinv.2.2 b hb).2.2.2.1; omega
    have HSC := Lib.hid (stateCopy_calls (A) c bs A2 c2 es W3 (Kd.C_below hr hB0) (Kd.C_below hr2 hB0) (by omega) (by omega) hb30)
    have HF := fun W hr => boxOf_calls (A) c bs bx W hr
    simp only [hfi] at HF
    replace HF := Lib.hid HF
    clear hfi
    go_enter Tryd.func57, Tryd.ntmps57
    go_wp2_with fail
    rw [← hW3.out]
    refine HSC.out.mono ?_
    rintro e w3 ⟨vB, vS, rfl, hS3, hE3, hb3⟩
    obtain ⟨Ab, cb, rfl⟩ := Kd.S_slice hS3
    obtain ⟨As, cs, rfl⟩ := Kd.R_slice hE3
    have hz3 := hb3.size
    obtain ⟨pb, hpbe⟩ : ∃ pb, pb = w3.heap.size := ⟨_, rfl⟩
    obtain ⟨base, hbe⟩ : ∃ base, base = W3.heap.size := ⟨_, rfl⟩
    obtain ⟨w5, hW5⟩ : ∃ w5 : World, w5 = w3.alloc (.cells #[.slice Ab bs.length cb, .slice As es.length cs] 25) := ⟨_, rfl⟩
    have hP5 : Blk w5 w.heap.size [.slice (A) bs.length c, .slice A2 es.length c2] := by rw [hW5]; exact (hP0.below hb3 (by omega)).alloc _
    have hX5 : Blk w5 (w.heap.size + 1) [.int .i64 1, .string bx, .int .i64 u, .int .i64 f, .string to_, .string tx] := by rw [hW5]; exact (hX0.below hb3 (by omega)).alloc _
    have hQ5 : Blk w5 (w.heap.size + 1 + 1) [.slice none 0 0, .slice none 0 0] := by rw [hW5]; exact (hQ0.below hb3 (by omega)).alloc _
    have hk5 : Blk w5 pb [.slice Ab bs.length cb, .slice As es.length cs] := by rw [hW5, hpbe]; exact Blk.made _ _ _
    have hB5 : Below w.heap.size w w5 := by rw [hW5]; exact below_alloc' (hB0.trans (hb3.mono (by omega))) (by omega) _
    have hS5 : Kd.S kBox 77 w5 base (fun k => k ≠ pb) (.slice Ab bs.length cb) bs := by rw [hW5, hbe, hpbe]; exact Kd.S_mono (Kd.S_below (Kd.S_bound hS3) (by repeat (first | exact Below.refl _ _ | apply below_alloc | apply pw_below_drewN | apply below_drew1 | (refine Below.setCell ?_ (by first | (simp; done) | (simp; omega) | omega) _) ))) (fun k hk => by have := hk.2.2.1; show k ≠ _; omega)
    have hE5 : Kd.R kAEntry 40 w5 base (fun k => k ≠ pb) (.slice As es.length cs) es := by rw [hW5, hbe, hpbe]; exact Kd.R_mono (Kd.R_below (Kd.R_bound hE3) (by repeat (first | exact Below.refl _ _ | apply below_alloc | apply pw_below_drewN | apply below_drew1 | (refine Below.setCell ?_ (by first | (simp; done) | (simp; omega) | omega) _) ))) (fun k hk => by have := hk.2.2.1; show k ≠ _; omega)
    have hp : base ≤ pb := by omega
    have hbw : w.heap.size + 1 + 1 < base := by omega
    have hC5 := Kd.C_below hr hB5
    have hz5k := hk5.lt
    have hz5p := hP5.lt
    have hz5x := hX5.lt
    have hz5q := hQ5.lt
    have p0 := (hP0.below hb3 (by omega)).at 0 _ rfl
    have x1 := (hX0.below hb3 (by omega)).at 1 _ rfl
    have hlt1 : w.heap.size < w3.heap.size := by omega
    have hlt2 : w.heap.size + 1 < w3.heap.size := by omega
    replace hW5 := Lib.hid hW5
    replace hpbe := Lib.hid hpbe
    clear hP0 hX0 hQ0 hB0 hb3 hS3 hE3 hbe hz0 hz3 hW3 HSC
    go_wp2_with fail
    rw [← hW5.out, ← hpbe.out]
    clear p0 x1 hlt1 hlt2
    have p0 := hP5.at 0 _ rfl
    have p1 := hP5.at 1 _ rfl
    have x0 := hX5.at 0 _ rfl
    have x1 := hX5.at 1 _ rfl
    have x2 := hX5.at 2 _ rfl
    have x3 := hX5.at 3 _ rfl
    have x4 := hX5.at 4 _ rfl
    have x5 := hX5.at 5 _ rfl
    have k0 := hk5.at 0 _ rfl
    have k1 := hk5.at 1 _ rfl
    refine (HF.out _ hC5).mono ?_
    rintro e w' ⟨rfl, rfl⟩
    have q0 := hQ5.at 0 _ rfl
    have q1 := hQ5.at 1 _ rfl
    have q2 := hQ5.free 0 _ rfl
    have q3 := hQ5.free 1 _ rfl
    go_wp2_with fail
    refine bodyPost_ret (v := .tuple #[.agg #[.slice (A) bs.length c, .slice A2 es.length c2], .int .i64 10]) (by simp [results, Tryd.results57, go_sem, *]) rfl ?_
    exact ⟨A, c, A2, c2, rfl, hc, hrd.below (by repeat (first | exact Below.refl _ _ | apply below_alloc | apply pw_below_drewN | apply below_drew1 | (refine Below.setCell ?_ (by first | (simp; done) | (simp; omega) | omega) _) | exact hB5)), (by repeat (first | exact Below.refl _ _ | apply below_alloc | apply pw_below_drewN | apply below_drew1 | (refine Below.setCell ?_ (by first | (simp; done) | (simp; omega) | omega) _) | exact hB5))⟩
  · rw [if_neg hf0]
    by_cases hf : 5 ≤ bs.length
    · rw [if_pos hf]
      have e5 : (5 : Int) ≤ (bs.length : Int) := by omega
      obtain ⟨W3, hW3⟩ : ∃ W3 : World, W3 = ((w.alloc (.cells #[.slice (A) bs.length c, .slice A2 es.length c2] 25)).alloc (.cells #[.int .i64 1, .string bx, .int .i64 u, .int .i64 f, .string to_, .string tx] 40)).alloc (.cells #[.slice none 0 0, .slice none 0 0] 25) := ⟨_, rfl⟩
      have hP0 : Blk W3 w.heap.size [.slice (A) bs.length c, .slice A2 es.length c2] := by rw [hW3]; exact ((Blk.made w _ _).alloc _).alloc _
      have hX0 : Blk W3 (w.heap.size + 1) [.int .i64 1, .string bx, .int .i64 u, .int .i64 f, .string to_, .string tx] := by rw [hW3]; exact (Blk.made_at _ _ _ (by simp)).alloc _
      have hQ0 : Blk W3 (w.heap.size + 1 + 1) [.slice none 0 0, .slice none 0 0] := by rw [hW3]; exact Blk.made_at _ _ _ (by simp)
      have hB0 : Below w.heap.size w W3 := by rw [hW3]; exact (by repeat (first | exact Below.refl _ _ | apply below_alloc | apply pw_below_drewN | apply below_drew1 | (refine Below.setCell ?_ (by first | (simp; done) | (simp; omega) | omega) _) ))
      have hz0 : W3.heap.size = w.heap.size + 1 + 1 + 1 := by rw [hW3]; simp
      replace hW3 := Lib.hid hW3
      have hi1 := hinv.1
      have hi2 := hinv.2.1
      have hb30 : ∀ b ∈ bs, b.2.2.length ≤ 1048576 := fun b hb => by have := (hinv.2.2 b hb).2.2.2.1; omega
      have HSC := Lib.hid (stateCopy_calls (A) c bs A2 c2 es W3 (Kd.C_below hr hB0) (Kd.C_below hr2 hB0) (by omega) (by omega) hb30)
      have HF := fun W hr => boxOf_calls (A) c bs bx W hr
      simp only [hfi] at HF
      replace HF := Lib.hid HF
      clear hfi hf
      go_enter Tryd.func57, Tryd.ntmps57
      go_wp2_with fail
      rw [← hW3.out]
      refine HSC.out.mono ?_
      rintro e w3 ⟨vB, vS, rfl, hS3, hE3, hb3⟩
      obtain ⟨Ab, cb, rfl⟩ := Kd.S_slice hS3
      obtain ⟨As, cs, rfl⟩ := Kd.R_slice hE3
      have hz3 := hb3.size
      obtain ⟨pb, hpbe⟩ : ∃ pb, pb = w3.heap.size := ⟨_, rfl⟩
      obtain ⟨base, hbe⟩ : ∃ base, base = W3.heap.size := ⟨_, rfl⟩
      obtain ⟨w5, hW5⟩ : ∃ w5 : World, w5 = w3.alloc (.cells #[.slice Ab bs.length cb, .slice As es.length cs] 25) := ⟨_, rfl⟩
      have hP5 : Blk w5 w.heap.size [.slice (A) bs.length c, .slice A2 es.length c2] := by rw [hW5]; exact (hP0.below hb3 (by omega)).alloc _
      have hX5 : Blk w5 (w.heap.size + 1) [.int .i64 1, .string bx, .int .i64 u, .int .i64 f, .string to_, .string tx] := by rw [hW5]; exact (hX0.below hb3 (by omega)).alloc _
      have hQ5 : Blk w5 (w.heap.size + 1 + 1) [.slice none 0 0, .slice none 0 0] := by rw [hW5]; exact (hQ0.below hb3 (by omega)).alloc _
      have hk5 : Blk w5 pb [.slice Ab bs.length cb, .slice As es.length cs] := by rw [hW5, hpbe]; exact Blk.made _ _ _
      have hB5 : Below w.heap.size w w5 := by rw [hW5]; exact below_alloc' (hB0.trans (hb3.mono (by omega))) (by omega) _
      have hS5 : Kd.S kBox 77 w5 base (fun k => k ≠ pb) (.slice Ab bs.length cb) bs := by rw [hW5, hbe, hpbe]; exact Kd.S_mono (Kd.S_below (Kd.S_bound hS3) (by repeat (first | exact Below.refl _ _ | apply below_alloc | apply pw_below_drewN | apply below_drew1 | (refine Below.setCell ?_ (by first | (simp; done) | (simp; omega) | omega) _) ))) (fun k hk => by have := hk.2.2.1; show k ≠ _; omega)
      have hE5 : Kd.R kAEntry 40 w5 base (fun k => k ≠ pb) (.slice As es.length cs) es := by rw [hW5, hbe, hpbe]; exact Kd.R_mono (Kd.R_below (Kd.R_bound hE3) (by repeat (first | exact Below.refl _ _ | apply below_alloc | apply pw_below_drewN | apply below_drew1 | (refine Below.setCell ?_ (by first | (simp; done) | (simp; omega) | omega) _) ))) (fun k hk => by have := hk.2.2.1; show k ≠ _; omega)
      have hp : base ≤ pb := by omega
      have hbw : w.heap.size + 1 + 1 < base := by omega
      have hC5 := Kd.C_below hr hB5
      have hz5k := hk5.lt
      have hz5p := hP5.lt
      have hz5x := hX5.lt
      have hz5q := hQ5.lt
      have p0 := (hP0.below hb3 (by omega)).at 0 _ rfl
      have x1 := (hX0.below hb3 (by omega)).at 1 _ rfl
      have hlt1 : w.heap.size < w3.heap.size := by omega
      have hlt2 : w.heap.size + 1 < w3.heap.size := by omega
      replace hW5 := Lib.hid hW5
      replace hpbe := Lib.hid hpbe
      clear hP0 hX0 hQ0 hB0 hb3 hS3 hE3 hbe hz0 hz3 hW3 HSC
      go_wp2_with fail
      rw [← hW5.out, ← hpbe.out]
      clear p0 x1 hlt1 hlt2
      have p0 := hP5.at 0 _ rfl
      have p1 := hP5.at 1 _ rfl
      have x0 := hX5.at 0 _ rfl
      have x1 := hX5.at 1 _ rfl
      have x2 := hX5.at 2 _ rfl
      have x3 := hX5.at 3 _ rfl
      have x4 := hX5.at 4 _ rfl
      have x5 := hX5.at 5 _ rfl
      have k0 := hk5.at 0 _ rfl
      have k1 := hk5.at 1 _ rfl
      refine (HF.out _ hC5).mono ?_
      rintro e w' ⟨rfl, rfl⟩
      have q0 := hQ5.at 0 _ rfl
      have q1 := hQ5.at 1 _ rfl
      have q2 := hQ5.free 0 _ rfl
      have q3 := hQ5.free 1 _ rfl
      go_wp2_with fail
      refine bodyPost_ret (v := .tuple #[.agg #[.slice (A) bs.length c, .slice A2 es.length c2], .int .i64 5]) (by simp [results, Tryd.results57, go_sem, *]) rfl ?_
      exact ⟨A, c, A2, c2, rfl, hc, hrd.below (by repeat (first | exact Below.refl _ _ | apply below_alloc | apply pw_below_drewN | apply below_drew1 | (refine Below.setCell ?_ (by first | (simp; done) | (simp; omega) | omega) _) | exact hB5)), (by repeat (first | exact Below.refl _ _ | apply below_alloc | apply pw_below_drewN | apply below_drew1 | (refine Below.setCell ?_ (by first | (simp; done) | (simp; omega) | omega) _) | exact hB5))⟩
    · rw [if_neg hf]
      have e5 : ¬ (5 : Int) ≤ (bs.length : Int) := by omega
      obtain ⟨W3, hW3⟩ : ∃ W3 : World, W3 = ((w.alloc (.cells #[.slice (A) bs.length c, .slice A2 es.length c2] 25)).alloc (.cells #[.int .i64 1, .string bx, .int .i64 u, .int .i64 f, .string to_, .string tx] 40)).alloc (.cells #[.slice none 0 0, .slice none 0 0] 25) := ⟨_, rfl⟩
      have hP0 : Blk W3 w.heap.size [.slice (A) bs.length c, .slice A2 es.length c2] := by rw [hW3]; exact ((Blk.made w _ _).alloc _).alloc _
      have hX0 : Blk W3 (w.heap.size + 1) [.int .i64 1, .string bx, .int .i64 u, .int .i64 f, .string to_, .string tx] := by rw [hW3]; exact (Blk.made_at _ _ _ (by simp)).alloc _
      have hQ0 : Blk W3 (w.heap.size + 1 + 1) [.slice none 0 0, .slice none 0 0] := by rw [hW3]; exact Blk.made_at _ _ _ (by simp)
      have hB0 : Below w.heap.size w W3 := by rw [hW3]; exact (by repeat (first | exact Below.refl _ _ | apply below_alloc | apply pw_below_drewN | apply below_drew1 | (refine Below.setCell ?_ (by first | (simp; done) | (simp; omega) | omega) _) ))
      have hz0 : W3.heap.size = w.heap.size + 1 + 1 + 1 := by rw [hW3]; simp
      replace hW3 := Lib.hid hW3
      have hi1 := hinv.1
      have hi2 := hinv.2.1
      have hb30 : ∀ b ∈ bs, b.2.2.length ≤ 1048576 := fun b hb => by have := (hinv.2.2 b hb).2.2.2.1; omega
      have HSC := Lib.hid (stateCopy_calls (A) c bs A2 c2 es W3 (Kd.C_below hr hB0) (Kd.C_below hr2 hB0) (by omega) (by omega) hb30)
      have HF := fun W hr => boxOf_calls (A) c bs bx W hr
      simp only [hfi] at HF
      replace HF := Lib.hid HF
      clear hfi hf
      go_enter Tryd.func57, Tryd.ntmps57
      go_wp2_with fail
      rw [← hW3.out]
      refine HSC.out.mono ?_
      rintro e w3 ⟨vB, vS, rfl, hS3, hE3, hb3⟩
      obtain ⟨Ab, cb, rfl⟩ := Kd.S_slice hS3
      obtain ⟨As, cs, rfl⟩ := Kd.R_slice hE3
      have hz3 := hb3.size
      obtain ⟨pb, hpbe⟩ : ∃ pb, pb = w3.heap.size := ⟨_, rfl⟩
      obtain ⟨base, hbe⟩ : ∃ base, base = W3.heap.size := ⟨_, rfl⟩
      obtain ⟨w5, hW5⟩ : ∃ w5 : World, w5 = w3.alloc (.cells #[.slice Ab bs.length cb, .slice As es.length cs] 25) := ⟨_, rfl⟩
      have hP5 : Blk w5 w.heap.size [.slice (A) bs.length c, .slice A2 es.length c2] := by rw [hW5]; exact (hP0.below hb3 (by omega)).alloc _
      have hX5 : Blk w5 (w.heap.size + 1) [.int .i64 1, .string bx, .int .i64 u, .int .i64 f, .string to_, .string tx] := by rw [hW5]; exact (hX0.below hb3 (by omega)).alloc _
      have hQ5 : Blk w5 (w.heap.size + 1 + 1) [.slice none 0 0, .slice none 0 0] := by rw [hW5]; exact (hQ0.below hb3 (by omega)).alloc _
      have hk5 : Blk w5 pb [.slice Ab bs.length cb, .slice As es.length cs] := by rw [hW5, hpbe]; exact Blk.made _ _ _
      have hB5 : Below w.heap.size w w5 := by rw [hW5]; exact below_alloc' (hB0.trans (hb3.mono (by omega))) (by omega) _
      have hS5 : Kd.S kBox 77 w5 base (fun k => k ≠ pb) (.slice Ab bs.length cb) bs := by rw [hW5, hbe, hpbe]; exact Kd.S_mono (Kd.S_below (Kd.S_bound hS3) (by repeat (first | exact Below.refl _ _ | apply below_alloc | apply pw_below_drewN | apply below_drew1 | (refine Below.setCell ?_ (by first | (simp; done) | (simp; omega) | omega) _) ))) (fun k hk => by have := hk.2.2.1; show k ≠ _; omega)
      have hE5 : Kd.R kAEntry 40 w5 base (fun k => k ≠ pb) (.slice As es.length cs) es := by rw [hW5, hbe, hpbe]; exact Kd.R_mono (Kd.R_below (Kd.R_bound hE3) (by repeat (first | exact Below.refl _ _ | apply below_alloc | apply pw_below_drewN | apply below_drew1 | (refine Below.setCell ?_ (by first | (simp; done) | (simp; omega) | omega) _) ))) (fun k hk => by have := hk.2.2.1; show k ≠ _; omega)
      have hp : base ≤ pb := by omega
      have hbw : w.heap.size + 1 + 1 < base := by omega
      have hC5 := Kd.C_below hr hB5
      have hz5k := hk5.lt
      have hz5p := hP5.lt
      have hz5x := hX5.lt
      have hz5q := hQ5.lt
      have p0 := (hP0.below hb3 (by omega)).at 0 _ rfl
      have x1 := (hX0.below hb3 (by omega)).at 1 _ rfl
      have hlt1 : w.heap.size < w3.heap.size := by omega
      have hlt2 : w.heap.size + 1 < w3.heap.size := by omega
      replace hW5 := Lib.hid hW5
      replace hpbe := Lib.hid hpbe
      clear hP0 hX0 hQ0 hB0 hb3 hS3 hE3 hbe hz0 hz3 hW3 HSC
      go_wp2_with fail
      rw [← hW5.out, ← hpbe.out]
      clear p0 x1 hlt1 hlt2
      have p0 := hP5.at 0 _ rfl
      have p1 := hP5.at 1 _ rfl
      have x0 := hX5.at 0 _ rfl
      have x1 := hX5.at 1 _ rfl
      have x2 := hX5.at 2 _ rfl
      have x3 := hX5.at 3 _ rfl
      have x4 := hX5.at 4 _ rfl
      have x5 := hX5.at 5 _ rfl
      have k0 := hk5.at 0 _ rfl
      have k1 := hk5.at 1 _ rfl
      refine (HF.out _ hC5).mono ?_
      rintro e w' ⟨rfl, rfl⟩
      go_wp2_with (at_builtin; refine box_list base rfl _ _ rfl (.slice Ab bs.length cb) bs bx 1 (fun k => k ≠ pb) (by first | rfl | (simp [Act.eval]; done)) (by first | rfl | (simp [Act.eval]; done)) (fun k hk => (by omega)) hS5 (by omega) (by omega) ?_)
      intro v1 w6 hS6 hb6 hg6
      obtain ⟨A6, c6, h6⟩ := Kd.S_slice hS6
      rw [List.length_append] at h6
      subst h6
      have hpo : some pb ≠ (Value.slice Ab bs.length cb).ownBlock := fun he => (Kd.S_R hS5).1 pb he.symm rfl
      have hk6 := hk5.grown hg6 hpo
      have hE6 := Kd.R_over' hE5 (Kd.S_typed hS5) (by decide) hg6
      have hQ6 := hQ5.below hb6 (by omega)
      have hB6 := hB5.trans (hb6.mono (by omega))
      have hz6 := hb6.size
      have g1 := hk6.at 0 _ rfl
      have g2 := hk6.free 0 _ rfl
      have hk7 := hk6.set 0 (.slice A6 (bs.length + 1) c6) (by simp)
      have hS7 := Kd.S_far (p := ⟨pb, 0, none⟩) hS6 (fun k hk => hk) (.slice A6 (bs.length + 1) c6)
      have hR7 := Kd.R_far (p := ⟨pb, 0, none⟩) hE6 (fun k hk => hk) (.slice A6 (bs.length + 1) c6)
      have hQ7 := hQ6.other (c := pb) (j := 0) (by omega) (.slice A6 (bs.length + 1) c6)
      have hlz : w.heap.size + 1 + 1 < w6.heap.size := by omega
      have r0 := hk7.at 1 _ rfl
      obtain ⟨hn1, hn2, hn3, hCo⟩ := own_out (Z := Z) hS7 hR7 (fun k hk => by have := hZ k hk; omega)
      have q0 := (hQ7).at 0 _ rfl
      have q1 := (hQ7).at 1 _ rfl
      have q2 := (hQ7).free 0 _ rfl
      have q3 := (hQ7).free 1 _ rfl
      replace hn1 := Lib.hid hn1
      replace hn3 := Lib.hid hn3
      go_wp2_with fail
      refine bodyPost_ret (v := .tuple #[.agg #[.slice (A6) (bs.length + 1) c6, .slice (As) (es.length) cs], .int .i64 0]) (by simp [results, Tryd.results57, go_sem, *]) rfl ?_
      exact ⟨A6, c6, As, cs, by simp, by first | exact hn2 | (rw [← hn1.out]; exact hn2) | (simp; omega), hCo _ (by omega) _ _, (by repeat (first | exact Below.refl _ _ | apply below_alloc | apply pw_below_drewN | apply below_drew1 | (refine Below.setCell ?_ (by first | (simp; done) | (simp; omega) | omega) _) | exact hB6))⟩
set_option maxHeartbeats 2000000 in
set_option maxRecDepth 100000 in
theorem entered_none (Z : Nat → Prop) (k : Int) (bx : ByteArray) (u f : Int) (to_ tx : ByteArray) (A : Option Addr) (c : Nat) (bs : List ABox) (A2 : Option Addr) (c2 : Nat) (es : List AEntry) (w : World) (hrd : Rd Z w A bs A2 es) (hZ : ∀ k, Z k → k < w.heap.size) (hc : bs.length ≤ c) (hinv : InvS bs es) (hk6 : ¬ k = 6) (hk1 : ¬ k = 1) (hf : findG bx bs 0 < 0) :
    Calls Tryd.prog 57 #[.agg #[.slice A bs.length c, .slice A2 es.length c2], .agg #[.int .i64 k, .string bx, .int .i64 u, .int .i64 f, .string to_, .string tx]] w (PostSt Z w (entV bs es ⟨k, bx, u, f, to_, tx⟩)) := by
  obtain ⟨hr, hr2⟩ := hrd.now
  rw [entV_none (x := ⟨k, bx, u, f, to_, tx⟩) hk6 hk1 hf]
  have b6 : (k == 6) = false := by rw [beq_eq_false_iff_ne]; exact hk6
  have b1 : (k == 1) = false := by rw [beq_eq_false_iff_ne]; exact hk1
  obtain ⟨fi, hfi⟩ : ∃ fi, findG bx bs 0 = fi := ⟨_, rfl⟩
  rw [hfi] at hf
  clear hk6 hk1
  obtain ⟨W3, hW3⟩ : ∃ W3 : World, W3 = ((w.alloc (.cells #[.slice (A) bs.length c, .slice A2 es.length c2] 25)).alloc (.cells #[.int .i64 k, .string bx, .int .i64 u, .int .i64 f, .string to_, .string tx] 40)).alloc (.cells #[.slice none 0 0, .slice none 0 0] 25) := ⟨_, rfl⟩
  have hP0 : Blk W3 w.heap.size [.slice (A) bs.length c, .slice A2 es.length c2] := by rw [hW3]; exact ((Blk.made w _ _).alloc _).alloc _
  have hX0 : Blk W3 (w.heap.size + 1) [.int .i64 k, .string bx, .int .i64 u, .int .i64 f, .string to_, .string tx] := by rw [hW3]; exact (Blk.made_at _ _ _ (by simp)).alloc _
  have hQ0 : Blk W3 (w.heap.size + 1 + 1) [.slice none 0 0, .slice none 0 0] := by rw [hW3]; exact Blk.made_at _ _ _ (by simp)
  have hB0 : Below w.heap.size w W3 := by rw [hW3]; exact (by repeat (first | exact Below.refl _ _ | apply below_alloc | apply pw_below_drewN | apply below_drew1 | (refine Below.setCell ?_ (by first | (simp; done) | (simp; omega) | omega) _) ))
  have hz0 : W3.heap.size = w.heap.size + 1 + 1 + 1 := by rw [hW3]; simp
  replace hW3 := Lib.hid hW3
  have hi1 := hinv.1
  have hi2 := hinv.2.1
  have hb30 : ∀ b ∈ bs, b.2.2.length ≤ 1048576 := fun b hb => by have := (hinv.2.2 b hb).2.2.2.1; omega
  have HSC := Lib.hid (stateCopy_calls (A) c bs A2 c2 es W3 (Kd.C_below hr hB0) (Kd.C_below hr2 hB0) (by omega) (by omega) hb30)
  have HF := fun W hr => boxOf_calls (A) c bs bx W hr
  simp only [hfi] at HF
  replace HF := Lib.hid HF
  clear hfi
  go_enter Tryd.func57, Tryd.ntmps57
  go_wp2_with fail
  rw [← hW3.out]
  refine HSC.out.mono ?_
  rintro e w3 ⟨vB, vS, rfl, hS3, hE3, hb3⟩
  obtain ⟨Ab, cb, rfl⟩ := Kd.S_slice hS3
  obtain ⟨As, cs, rfl⟩ := Kd.R_slice hE3
  have hz3 := hb3.size
  obtain ⟨pb, hpbe⟩ : ∃ pb, pb = w3.heap.size := ⟨_, rfl⟩
  obtain ⟨base, hbe⟩ : ∃ base, base = W3.heap.size := ⟨_, rfl⟩
  obtain ⟨w5, hW5⟩ : ∃ w5 : World, w5 = w3.alloc (.cells #[.slice Ab bs.length cb, .slice As es.length cs] 25) := ⟨_, rfl⟩
  have hP5 : Blk w5 w.heap.size [.slice (A) bs.length c, .slice A2 es.length c2] := by rw [hW5]; exact (hP0.below hb3 (by omega)).alloc _
  have hX5 : Blk w5 (w.heap.size + 1) [.int .i64 k, .string bx, .int .i64 u, .int .i64 f, .string to_, .string tx] := by rw [hW5]; exact (hX0.below hb3 (by omega)).alloc _
  have hQ5 : Blk w5 (w.heap.size + 1 + 1) [.slice none 0 0, .slice none 0 0] := by rw [hW5]; exact (hQ0.below hb3 (by omega)).alloc _
  have hk5 : Blk w5 pb [.slice Ab bs.length cb, .slice As es.length cs] := by rw [hW5, hpbe]; exact Blk.made _ _ _
  have hB5 : Below w.heap.size w w5 := by rw [hW5]; exact below_alloc' (hB0.trans (hb3.mono (by omega))) (by omega) _
  have hS5 : Kd.S kBox 77 w5 base (fun k => k ≠ pb) (.slice Ab bs.length cb) bs := by rw [hW5, hbe, hpbe]; exact Kd.S_mono (Kd.S_below (Kd.S_bound hS3) (by repeat (first | exact Below.refl _ _ | apply below_alloc | apply pw_below_drewN | apply below_drew1 | (refine Below.setCell ?_ (by first | (simp; done) | (simp; omega) | omega) _) ))) (fun k hk => by have := hk.2.2.1; show k ≠ _; omega)
  have hE5 : Kd.R kAEntry 40 w5 base (fun k => k ≠ pb) (.slice As es.length cs) es := by rw [hW5, hbe, hpbe]; exact Kd.R_mono (Kd.R_below (Kd.R_bound hE3) (by repeat (first | exact Below.refl _ _ | apply below_alloc | apply pw_below_drewN | apply below_drew1 | (refine Below.setCell ?_ (by first | (simp; done) | (simp; omega) | omega) _) ))) (fun k hk => by have := hk.2.2.1; show k ≠ _; omega)
  have hp : base ≤ pb := by omega
  have hbw : w.heap.size + 1 + 1 < base := by omega
  have hC5 := Kd.C_below hr hB5
  have hz5k := hk5.lt
  have hz5p := hP5.lt
  have hz5x := hX5.lt
  have hz5q := hQ5.lt
  have p0 := (hP0.below hb3 (by omega)).at 0 _ rfl
  have x1 := (hX0.below hb3 (by omega)).at 1 _ rfl
  have hlt1 : w.heap.size < w3.heap.size := by omega
  have hlt2 : w.heap.size + 1 < w3.heap.size := by omega
  replace hW5 := Lib.hid hW5
  replace hpbe := Lib.hid hpbe
  clear hP0 hX0 hQ0 hB0 hb3 hS3 hE3 hbe hz0 hz3 hW3 HSC
  go_wp2_with fail
  rw [← hW5.out, ← hpbe.out]
  clear p0 x1 hlt1 hlt2
  have p0 := hP5.at 0 _ rfl
  have p1 := hP5.at 1 _ rfl
  have x0 := hX5.at 0 _ rfl
  have x1 := hX5.at 1 _ rfl
  have x2 := hX5.at 2 _ rfl
  have x3 := hX5.at 3 _ rfl
  have x4 := hX5.at 4 _ rfl
  have x5 := hX5.at 5 _ rfl
  have k0 := hk5.at 0 _ rfl
  have k1 := hk5.at 1 _ rfl
  refine (HF.out _ hC5).mono ?_
  rintro e w' ⟨rfl, rfl⟩
  have q0 := hQ5.at 0 _ rfl
  have q1 := hQ5.at 1 _ rfl
  have q2 := hQ5.free 0 _ rfl
  have q3 := hQ5.free 1 _ rfl
  go_wp2_with fail
  refine bodyPost_ret (v := .tuple #[.agg #[.slice (A) bs.length c, .slice A2 es.length c2], .int .i64 7]) (by simp [results, Tryd.results57, go_sem, *]) rfl ?_
  exact ⟨A, c, A2, c2, rfl, hc, hrd.below (by repeat (first | exact Below.refl _ _ | apply below_alloc | apply pw_below_drewN | apply below_drew1 | (refine Below.setCell ?_ (by first | (simp; done) | (simp; omega) | omega) _) | exact hB5)), (by repeat (first | exact Below.refl _ _ | apply below_alloc | apply pw_below_drewN | apply below_drew1 | (refine Below.setCell ?_ (by first | (simp; done) | (simp; omega) | omega) _) | exact hB5))⟩
set_option maxHeartbeats 2000000 in
set_option maxRecDepth 100000 in
theorem entered_append (Z : Nat → Prop) (i : Nat) (bx : ByteArray) (u f : Int) (to_ tx : ByteArray) (A : Option Addr) (c : Nat) (bs : List ABox) (A2 : Option Addr) (c2 : Nat) (es : List AEntry) (w : World) (hrd : Rd Z w A bs A2 es) (hZ : ∀ k, Z k → k < w.heap.size) (hc : bs.length ≤ c) (hinv : InvS bs es) (htx : tx.size ≤ 2000) (hfi : findG bx bs 0 = (i : Int)) (hi : i < bs.length) :
    Calls Tryd.prog 57 #[.agg #[.slice A bs.length c, .slice A2 es.length c2], .agg #[.int .i64 2, .string bx, .int .i64 u, .int .i64 f, .string to_, .string tx]] w (PostSt Z w (entV bs es ⟨2, bx, u, f, to_, tx⟩)) := by
  obtain ⟨hr, hr2⟩ := hrd.now
  have hm : mailV bs i ⟨2, bx, u, f, to_, tx⟩ = addV bs i f tx := if_pos rfl
  rw [entV_mail (x := ⟨2, bx, u, f, to_, tx⟩) (by show ¬ ((2 : Int) = 6); decide) (by show ¬ ((2 : Int) = 1); decide) hfi, hm]
  have HP := fun Z W h1 h2 => put_calls Z i f tx A c bs A2 c2 es W h1 h2 hc hinv hi htx
  generalize addV bs i f tx = R at *
  obtain ⟨rf, rb⟩ := R
  replace HP := Lib.hid HP
  have i0 : (0 : Int) ≤ (i : Int) := by omega
  have i1 : ¬ (i : Int) < 0 := by omega
  clear hm
  obtain ⟨W3, hW3⟩ : ∃ W3 : World, W3 = ((w.alloc (.cells #[.slice (A) bs.length c, .slice A2 es.length c2] 25)).alloc (.cells #[.int .i64 2, .string bx, .int .i64 u, .int .i64 f, .string to_, .string tx] 40)).alloc (.cells #[.slice none 0 0, .slice none 0 0] 25) := ⟨_, rfl⟩
  have hP0 : Blk W3 w.heap.size [.slice (A) bs.length c, .slice A2 es.length c2] := by rw [hW3]; exact ((Blk.made w _ _).alloc _).alloc _
  have hX0 : Blk W3 (w.heap.size + 1) [.int .i64 2, .string bx, .int .i64 u, .int .i64 f, .string to_, .string tx] := by rw [hW3]; exact (Blk.made_at _ _ _ (by simp)).alloc _
  have hQ0 : Blk W3 (w.heap.size + 1 + 1) [.slice none 0 0, .slice none 0 0] := by rw [hW3]; exact Blk.made_at _ _ _ (by simp)
  have hB0 : Below w.heap.size w W3 := by rw [hW3]; exact (by repeat (first | exact Below.refl _ _ | apply below_alloc | apply pw_below_drewN | apply below_drew1 | (refine Below.setCell ?_ (by first | (simp; done) | (simp; omega) | omega) _) ))
  have hz0 : W3.heap.size = w.heap.size + 1 + 1 + 1 := by rw [hW3]; simp
  replace hW3 := Lib.hid hW3
  have hi1 := hinv.1
  have hi2 := hinv.2.1
  have hb30 : ∀ b ∈ bs, b.2.2.length ≤ 1048576 := fun b hb => by have := (hinv.2.2 b hb).2.2.2.1; omega
  have HSC := Lib.hid (stateCopy_calls (A) c bs A2 c2 es W3 (Kd.C_below hr hB0) (Kd.C_below hr2 hB0) (by omega) (by omega) hb30)
  have HF := fun W hr => boxOf_calls (A) c bs bx W hr
  simp only [hfi] at HF
  replace HF := Lib.hid HF
  clear hfi
  go_enter Tryd.func57, Tryd.ntmps57
  go_wp2_with fail
  rw [← hW3.out]
  refine HSC.out.mono ?_
  rintro e w3 ⟨vB, vS, rfl, hS3, hE3, hb3⟩
  obtain ⟨Ab, cb, rfl⟩ := Kd.S_slice hS3
  obtain ⟨As, cs, rfl⟩ := Kd.R_slice hE3
  have hz3 := hb3.size
  obtain ⟨pb, hpbe⟩ : ∃ pb, pb = w3.heap.size := ⟨_, rfl⟩
  obtain ⟨base, hbe⟩ : ∃ base, base = W3.heap.size := ⟨_, rfl⟩
  obtain ⟨w5, hW5⟩ : ∃ w5 : World, w5 = w3.alloc (.cells #[.slice Ab bs.length cb, .slice As es.length cs] 25) := ⟨_, rfl⟩
  have hP5 : Blk w5 w.heap.size [.slice (A) bs.length c, .slice A2 es.length c2] := by rw [hW5]; exact (hP0.below hb3 (by omega)).alloc _
  have hX5 : Blk w5 (w.heap.size + 1) [.int .i64 2, .string bx, .int .i64 u, .int .i64 f, .string to_, .string tx] := by rw [hW5]; exact (hX0.below hb3 (by omega)).alloc _
  have hQ5 : Blk w5 (w.heap.size + 1 + 1) [.slice none 0 0, .slice none 0 0] := by rw [hW5]; exact (hQ0.below hb3 (by omega)).alloc _
  have hk5 : Blk w5 pb [.slice Ab bs.length cb, .slice As es.length cs] := by rw [hW5, hpbe]; exact Blk.made _ _ _
  have hB5 : Below w.heap.size w w5 := by rw [hW5]; exact below_alloc' (hB0.trans (hb3.mono (by omega))) (by omega) _
  have hS5 : Kd.S kBox 77 w5 base (fun k => k ≠ pb) (.slice Ab bs.length cb) bs := by rw [hW5, hbe, hpbe]; exact Kd.S_mono (Kd.S_below (Kd.S_bound hS3) (by repeat (first | exact Below.refl _ _ | apply below_alloc | apply pw_below_drewN | apply below_drew1 | (refine Below.setCell ?_ (by first | (simp; done) | (simp; omega) | omega) _) ))) (fun k hk => by have := hk.2.2.1; show k ≠ _; omega)
  have hE5 : Kd.R kAEntry 40 w5 base (fun k => k ≠ pb) (.slice As es.length cs) es := by rw [hW5, hbe, hpbe]; exact Kd.R_mono (Kd.R_below (Kd.R_bound hE3) (by repeat (first | exact Below.refl _ _ | apply below_alloc | apply pw_below_drewN | apply below_drew1 | (refine Below.setCell ?_ (by first | (simp; done) | (simp; omega) | omega) _) ))) (fun k hk => by have := hk.2.2.1; show k ≠ _; omega)
  have hp : base ≤ pb := by omega
  have hbw : w.heap.size + 1 + 1 < base := by omega
  have hC5 := Kd.C_below hr hB5
  have hz5k := hk5.lt
  have hz5p := hP5.lt
  have hz5x := hX5.lt
  have hz5q := hQ5.lt
  have p0 := (hP0.below hb3 (by omega)).at 0 _ rfl
  have x1 := (hX0.below hb3 (by omega)).at 1 _ rfl
  have hlt1 : w.heap.size < w3.heap.size := by omega
  have hlt2 : w.heap.size + 1 < w3.heap.size := by omega
  replace hW5 := Lib.hid hW5
  replace hpbe := Lib.hid hpbe
  clear hP0 hX0 hQ0 hB0 hb3 hS3 hE3 hbe hz0 hz3 hW3 HSC
  go_wp2_with fail
  rw [← hW5.out, ← hpbe.out]
  clear p0 x1 hlt1 hlt2
  have p0 := hP5.at 0 _ rfl
  have p1 := hP5.at 1 _ rfl
  have x0 := hX5.at 0 _ rfl
  have x1 := hX5.at 1 _ rfl
  have x2 := hX5.at 2 _ rfl
  have x3 := hX5.at 3 _ rfl
  have x4 := hX5.at 4 _ rfl
  have x5 := hX5.at 5 _ rfl
  have k0 := hk5.at 0 _ rfl
  have k1 := hk5.at 1 _ rfl
  refine (HF.out _ hC5).mono ?_
  rintro e w' ⟨rfl, rfl⟩
  go_wp2_with fail
  have hrd5 := hrd.step (Z' := fun k => Z k ∨ k = w.heap.size + 1 + 1) (hB5).size (fun k _ h => (hB5).block k h) (fun k hk hz => hz.elim id (fun h => by omega))
  have hQl := (hQ5).lt
  refine (HP.out (fun k => Z k ∨ k = w.heap.size + 1 + 1) _ hrd5 (fun k hk => by rcases hk with hk | hk; have := hZ k hk; have := (hB5).size; omega; omega)).mono ?_
  rintro e w6 ⟨A6, c6, A7, c7, rfl, hc6, hrd6, hb6⟩
  simp only at hc6 hrd6 ⊢
  have hQ6 := (hQ5).below hb6 hQl
  have hB6 := (hB5).trans (hb6.mono (hB5).size)
  have hz6 := hb6.size
  have q0 := hQ6.at 0 _ rfl
  have q1 := hQ6.at 1 _ rfl
  have q2 := hQ6.free 0 _ rfl
  have q3 := hQ6.free 1 _ rfl
  have hql := hQ6.lt
  clear k0 k1 p0 p1 x0 x1 x2 x3 x4 x5
  go_wp2_with fail
  refine bodyPost_ret (v := .tuple #[.agg #[.slice A6 rb.length c6, .slice A7 es.length c7], .int .i64 rf]) (by simp [results, Tryd.results57, go_sem, *]) rfl ?_
  exact ⟨A6, c6, A7, c7, rfl, hc6, ((((hrd6.stored (.inr rfl) 0 _).stored (.inr rfl) 1 _)).below (by repeat (first | exact Below.refl _ _ | apply below_alloc | apply pw_below_drewN | apply below_drew1 | (refine Below.setCell ?_ (by first | (simp; done) | (simp; omega) | omega) _) ))).less (fun k hk => .inl hk), (by repeat (first | exact Below.refl _ _ | apply below_alloc | apply pw_below_drewN | apply below_drew1 | (refine Below.setCell ?_ (by first | (simp; done) | (simp; omega) | omega) _) | exact hB6))⟩
end Go.Proofs.YtijdghplfhfpaaaDoor.H

/- Boxes: box.apply: Flag, Copy. -/
namespace Go.Proofs.YtijdghplfhfpaaaDoor.H
open Go.RowKit Go.Proofs.YtijdghplfhfpaaaDoorW.PrintWords Go.Proofs.YtijdghplfhfpaaaDoorW.PrintLast Go.Proofs.YtijdghplfhfpaaaDoor.U
set_option linter.unusedVariables false
set_option linter.unusedSimpArgs false
section
variable {w : World} {base gm n cap j : Nat} {L : List AMail} {ok : Nat → Prop} {m : AMail}
theorem row_at (h : Kd.R kAMail 84 w base ok (.slice (some ⟨gm, 0, none⟩) n cap) L) (hj : j < L.length) (hm : L[j] = m) : w.cell? ⟨gm, j * 3, none⟩ = some (.int .i64 m.uid) ∧ w.cell? ⟨gm, j * 3 + 1, none⟩ = some (.int .i64 m.flags) ∧ w.cell? ⟨gm, j * 3 + 2, none⟩ = some (.string m.text) := by
  obtain ⟨ad, e1, hx0, hxj⟩ := flat_at (Kd.R_reads' h).2.2 j hj
  obtain rfl := Option.some.inj e1
  rw [hm] at hx0 hxj
  rw [add_plain] at hx0 hxj
  exact ⟨hx0 _ rfl, hxj 1 _ (by decide) rfl, hxj 2 _ (by decide) rfl⟩
theorem row_flag (h : Kd.R kAMail 84 w base ok (.slice (some ⟨gm, 0, none⟩) n cap) L) (hj : j < L.length) (hm : L[j] = m) (f : Int) :
    Kd.R kAMail 84 (w.setCell ⟨gm, j * 3 + 1, none⟩ (.int .i64 f)) base ok (.slice (some ⟨gm, 0, none⟩) n cap) (L.set j ⟨m.uid, f, m.text⟩) := by
  obtain ⟨hn, hnc, _⟩ := Kd.R_reads' h
  obtain ⟨z0, z1, z2⟩ := row_at h hj hm
  exact (Kd.R_seg h (j : Int) (Int.natCast_nonneg j) (by omega) (c := [.int .i64 m.uid, .int .i64 m.flags, .string m.text]) (seg := [.int .i64 f]) (j := 1) (x' := ⟨m.uid, f, m.text⟩) (okp := fun _ => False) rfl (fun j u hu => by
    match j, hu with
    | 0, hu => obtain rfl := Option.some.inj hu; exact z0
    | 1, hu => obtain rfl := Option.some.inj hu; exact z1
    | 2, hu => obtain rfl := Option.some.inj hu; exact z2
    | j + 3, hu => simp at hu) (by show 1 + 1 ≤ 3; omega) rfl (fun _ hk => hk.elim)).1
end
theorem mailV_miss {bs : List ABox} {i : Nat} {x : AEntry} (h2 : ¬ x.kind = 2) (h4 : ¬ x.kind = 4) (hf : findU x.uid (mailsAt bs i) 0 < 0) : mailV bs i x = (7, bs) := by
  rw [mailV, if_neg h2, if_neg h4, if_pos hf]
set_option maxHeartbeats 2000000 in
set_option maxRecDepth 100000 in
theorem apply_miss (pb i : Nat) (k : Int) (bx : ByteArray) (u f : Int) (to_ tx : ByteArray) (base : Nat) (bs : List ABox) (es : List AEntry) (w : World) (h : StB w base pb bs es) (hk : k = 3 ∨ k = 5) (hfi : findG bx bs 0 = (i : Int)) (hi : i < bs.length) (hfk : findU u (mailsAt bs i) 0 < 0) :
    Calls Tryd.prog 55 #[.pointer (some ⟨pb, 0, none⟩), .agg #[.int .i64 k, .string bx, .int .i64 u, .int .i64 f, .string to_, .string tx]] w fun e w' => e = .returned (.int .i64 (entV bs es ⟨k, bx, u, f, to_, tx⟩).1) ∧ StB w' base pb (entV bs es ⟨k, bx, u, f, to_, tx⟩).2.1 (entV bs es ⟨k, bx, u, f, to_, tx⟩).2.2 ∧ Below base w w' := by
  have hbase := h.bases
  have hpb := h.lt
  have b6 : (k == 6) = false := by rw [beq_eq_false_iff_ne]; omega
  have b1 : (k == 1) = false := by rw [beq_eq_false_iff_ne]; omega
  have b2 : (k == 2) = false := by rw [beq_eq_false_iff_ne]; omega
  have b4 : (k == 4) = false := by rw [beq_eq_false_iff_ne]; omega
  rw [entV_mail (x := ⟨k, bx, u, f, to_, tx⟩) (by show ¬ k = 6; omega) (by show ¬ k = 1; omega) hfi, mailV_miss (x := ⟨k, bx, u, f, to_, tx⟩) (by show ¬ k = 2; omega) (by show ¬ k = 4; omega) hfk]
  clear hk
  obtain ⟨nm, nx, l, hb⟩ : ∃ nm nx l, bs[i] = (nm, nx, l) := ⟨_, _, _, rfl⟩
  rw [mailsAt_of hi hb] at hfk
  have i0 : (0 : Int) ≤ (i : Int) := by omega
  have i1 : ¬ (i : Int) < 0 := by omega
  have i2 : (i : Int) < (bs.length : Int) := by omega
  obtain ⟨fk, hfkk⟩ : ∃ fk, findU u l 0 = fk := ⟨_, rfl⟩
  rw [hfkk] at hfk
  rw [findU_P] at hfkk
  obtain ⟨vB, vS, hk, hp, hS, hE⟩ := h
  obtain ⟨A, c, rfl, hc, hC⟩ := Kd.S_reads hS
  obtain ⟨A3, c3, rfl⟩ := Kd.R_slice hE
  have hEl := Kd.R_lt hE
  have hSl := Kd.S_lt hS
  obtain ⟨W1, hW1⟩ : ∃ W1 : World, W1 = w.alloc (.cells #[.int .i64 k, .string bx, .int .i64 u, .int .i64 f, .string to_, .string tx] 40) := ⟨_, rfl⟩
  have hX1 : Blk W1 w.heap.size [.int .i64 k, .string bx, .int .i64 u, .int .i64 f, .string to_, .string tx] := by rw [hW1]; exact Blk.made w _ _
  have hXT : W1.heap[w.heap.size]? = some (.cells #[.int .i64 k, .string bx, .int .i64 u, .int .i64 f, .string to_, .string tx] 40 (0, 0)) := by rw [hW1]; show (w.heap.push _)[w.heap.size]? = _; rw [Array.getElem?_push_size]
  have hb1 : Below w.heap.size w W1 := by rw [hW1]; exact (by repeat (first | exact Below.refl _ _ | apply below_alloc | apply pw_below_drewN | apply below_drew1 | (refine Below.setCell ?_ (by first | (simp; done) | (simp; omega) | omega) _) ))
  have hk1 := hk.below hb1 hpb
  have hz1 : W1.heap.size = w.heap.size + 1 := by rw [hW1]; simp
  have hC1 := Kd.C_below hC hb1
  have HF := fun W hr => find_calls A c bs bx W hr
  have d0 := cell_drew' (hk1.at 0 _ rfl)
  have d1 := cell_drew' (hX1.at 1 _ rfl)
  replace hW1 := Lib.hid hW1
  simp only [hfi] at HF
  clear hfi
  replace HF := Lib.hid HF
  go_enter Tryd.func55, Tryd.ntmps55
  go_wp2_with fail
  rw [← hW1.out]
  go_region_held3 (fun w' => w'.cell? ⟨pb, 0, none⟩ = some (.slice A bs.length c) ∧ w'.cell? ⟨w.heap.size, 1, none⟩ = some (.string bx)) (first | exact ⟨d0, d1⟩ | exact ⟨k0, k1⟩ | go_keep) ((go_at_call 47; refine (HF.out _ (Kd.C_below hC1 (by repeat (first | exact Below.refl _ _ | apply below_alloc | apply pw_below_drewN | apply below_drew1 | (refine Below.setCell ?_ (by first | (simp; done) | (simp; omega) | omega) _) )))).mono ?_; rintro e w5 ⟨rfl, hb5⟩; have k0 := (hb5.cell (lt_of_cell' d0)).trans d0; have k1 := (hb5.cell (lt_of_cell' d1)).trans d1))
  have hb6 : Below W1.heap.size W1 w5 := Below.trans (show Below W1.heap.size W1 W1.drew from (by repeat (first | exact Below.refl _ _ | apply below_alloc | apply pw_below_drewN | apply below_drew1 | (refine Below.setCell ?_ (by first | (simp; done) | (simp; omega) | omega) _) ))) (hb5.mono (by simp))
  have hz5 := hb6.size
  have hX5 := hX1.below hb6 (by omega)
  have hXT5 := (hb6.block w.heap.size (by omega)).trans hXT
  clear hXT
  have hk5 := hk1.below hb6 (by omega)
  have hS5 := Kd.S_below (Kd.S_below hS hb1) hb6
  have hE5 := Kd.R_below (Kd.R_below hE hb1) hb6
  have hB5 := (hb1.mono hbase).trans (hb6.mono (by omega))
  clear hX1 hk1 hC1 hb5 d0 d1 k0 k1 hk hS hE hC
  have m0 := hk5.at 0 _ rfl
  have m1 := hk5.at 1 _ rfl
  have x0 := hX5.at 0 _ rfl
  have x1 := hX5.at 1 _ rfl
  have x2 := hX5.at 2 _ rfl
  have x3 := hX5.at 3 _ rfl
  have x4 := hX5.at 4 _ rfl
  have x5 := hX5.at 5 _ rfl
  obtain ⟨g, cap, hAc, hgb, hgl, cells, hgc⟩ := Kd.S_form hS5 (by omega)
  injection hAc with hAc1 _ hAc2
  subst hAc1
  subst hAc2
  obtain ⟨oki, vM, y0, y1, y2, f1, f2, hR, hoki, hH⟩ := box_lend hS5 hi hb
  obtain ⟨Am, cm, rfl⟩ := Kd.R_slice hR
  have hng : g ≠ pb := fun he => (Kd.S_R hS5).1 g (by simp [Value.ownBlock]) he
  have hng2 : pb ≠ g := Ne.symm hng
  have hgx : g < w.heap.size := hSl g (by simp [Value.ownBlock])
  have ea : (⟨g, 0, none⟩ : Addr).add (i * 3) = ⟨g, i * 3, none⟩ := add_plain _ _
  have hgo : some g ≠ (Value.slice Am l.length cm).ownBlock := fun he => (hoki g (hR.1 g he.symm)).2 rfl
  have hpo : some pb ≠ (Value.slice Am l.length cm).ownBlock := fun he => (hoki pb (hR.1 pb he.symm)).1 rfl
  have HI := indexU_calls u w.heap.size Am cm l (fun m => decide (m.uid = u)) w5 (Kd.R_reads' hR).2.2 rfl x2 (by omega)
  rw [hfkk] at HI
  replace HI := Lib.hid HI
  have hst : StB w5 base pb bs es := ⟨_, _, hk5, hp, hS5, hE5⟩
  clear hfkk
  go_wp2_with fail
  refine HI.out.mono ?_
  rintro e w6 ⟨rfl, hb7⟩
  go_wp2_with fail
  go_ret
  exact ⟨(by first | rfl | (simp; done) | (simp [*]; done) | (rw [if_pos (by omega)]; first | rfl | (simp; done)) | (rw [if_neg (by omega)]; first | rfl | (simp; done)) | (simp; omega)), hst.new hb7, hB5.trans (hb7.mono (by omega))⟩
set_option maxHeartbeats 2000000 in
set_option maxRecDepth 100000 in
theorem apply_flag (pb i j : Nat) (bx : ByteArray) (u f : Int) (to_ tx : ByteArray) (base : Nat) (bs : List ABox) (es : List AEntry) (w : World) (h : StB w base pb bs es) (hfi : findG bx bs 0 = (i : Int)) (hi : i < bs.length) (hfk : findU u (mailsAt bs i) 0 = (j : Int)) (hj : j < (mailsAt bs i).length) :
    Calls Tryd.prog 55 #[.pointer (some ⟨pb, 0, none⟩), .agg #[.int .i64 3, .string bx, .int .i64 u, .int .i64 f, .string to_, .string tx]] w fun e w' => e = .returned (.int .i64 (entV bs es ⟨3, bx, u, f, to_, tx⟩).1) ∧ StB w' base pb (entV bs es ⟨3, bx, u, f, to_, tx⟩).2.1 (entV bs es ⟨3, bx, u, f, to_, tx⟩).2.2 ∧ Below base w w' := by
  have hbase := h.bases
  have hpb := h.lt
  obtain ⟨nm, nx, l, hb⟩ : ∃ nm nx l, bs[i] = (nm, nx, l) := ⟨_, _, _, rfl⟩
  rw [mailsAt_of hi hb] at hfk hj
  obtain ⟨m, hm⟩ : ∃ m, l[j] = m := ⟨_, rfl⟩
  have hmv : mailV bs i ⟨3, bx, u, f, to_, tx⟩ = (0, bs.set i (nm, nx, l.set j ⟨m.uid, f, m.text⟩)) := by
    rw [← putMails_of hi hb, mailV, if_neg (by show ¬ ((3 : Int) = 2); decide), if_neg (by show ¬ ((3 : Int) = 4); decide), mailsAt_of hi hb]
    simp only [hfk]
    rw [if_neg (by omega), if_pos trivial, Int.toNat_natCast, flagsAt, List.getElem?_eq_getElem hj, hm]
  rw [entV_mail (x := ⟨3, bx, u, f, to_, tx⟩) (by show ¬ ((3 : Int) = 6); decide) (by show ¬ ((3 : Int) = 1); decide) hfi, hmv]
  rw [findU_P] at hfk
  have i0 : (0 : Int) ≤ (i : Int) := by omega
  have i1 : ¬ (i : Int) < 0 := by omega
  have i2 : (i : Int) < (bs.length : Int) := by omega
  have j0 : (0 : Int) ≤ (j : Int) := by omega
  have j1 : ¬ (j : Int) < 0 := by omega
  have j2 : (j : Int) < (l.length : Int) := by omega
  obtain ⟨vB, vS, hk, hp, hS, hE⟩ := h
  obtain ⟨A, c, rfl, hc, hC⟩ := Kd.S_reads hS
  obtain ⟨A3, c3, rfl⟩ := Kd.R_slice hE
  have hEl := Kd.R_lt hE
  have hSl := Kd.S_lt hS
  obtain ⟨W1, hW1⟩ : ∃ W1 : World, W1 = w.alloc (.cells #[.int .i64 3, .string bx, .int .i64 u, .int .i64 f, .string to_, .string tx] 40) := ⟨_, rfl⟩
  have hX1 : Blk W1 w.heap.size [.int .i64 3, .string bx, .int .i64 u, .int .i64 f, .string to_, .string tx] := by rw [hW1]; exact Blk.made w _ _
  have hXT : W1.heap[w.heap.size]? = some (.cells #[.int .i64 3, .string bx, .int .i64 u, .int .i64 f, .string to_, .string tx] 40 (0, 0)) := by rw [hW1]; show (w.heap.push _)[w.heap.size]? = _; rw [Array.getElem?_push_size]
  have hb1 : Below w.heap.size w W1 := by rw [hW1]; exact (by repeat (first | exact Below.refl _ _ | apply below_alloc | apply pw_below_drewN | apply below_drew1 | (refine Below.setCell ?_ (by first | (simp; done) | (simp; omega) | omega) _) ))
  have hk1 := hk.below hb1 hpb
  have hz1 : W1.heap.size = w.heap.size + 1 := by rw [hW1]; simp
  have hC1 := Kd.C_below hC hb1
  have HF := fun W hr => find_calls A c bs bx W hr
  have d0 := cell_drew' (hk1.at 0 _ rfl)
  have d1 := cell_drew' (hX1.at 1 _ rfl)
  replace hW1 := Lib.hid hW1
  simp only [hfi] at HF
  clear hfi hmv
  replace HF := Lib.hid HF
  go_enter Tryd.func55, Tryd.ntmps55
  go_wp2_with fail
  rw [← hW1.out]
  go_region_held3 (fun w' => w'.cell? ⟨pb, 0, none⟩ = some (.slice A bs.length c) ∧ w'.cell? ⟨w.heap.size, 1, none⟩ = some (.string bx)) (first | exact ⟨d0, d1⟩ | exact ⟨k0, k1⟩ | go_keep) ((go_at_call 47; refine (HF.out _ (Kd.C_below hC1 (by repeat (first | exact Below.refl _ _ | apply below_alloc | apply pw_below_drewN | apply below_drew1 | (refine Below.setCell ?_ (by first | (simp; done) | (simp; omega) | omega) _) )))).mono ?_; rintro e w5 ⟨rfl, hb5⟩; have k0 := (hb5.cell (lt_of_cell' d0)).trans d0; have k1 := (hb5.cell (lt_of_cell' d1)).trans d1))
  have hb6 : Below W1.heap.size W1 w5 := Below.trans (show Below W1.heap.size W1 W1.drew from (by repeat (first | exact Below.refl _ _ | apply below_alloc | apply pw_below_drewN | apply below_drew1 | (refine Below.setCell ?_ (by first | (simp; done) | (simp; omega) | omega) _) ))) (hb5.mono (by simp))
  have hz5 := hb6.size
  have hX5 := hX1.below hb6 (by omega)
  have hXT5 := (hb6.block w.heap.size (by omega)).trans hXT
  clear hXT
  have hk5 := hk1.below hb6 (by omega)
  have hS5 := Kd.S_below (Kd.S_below hS hb1) hb6
  have hE5 := Kd.R_below (Kd.R_below hE hb1) hb6
  have hB5 := (hb1.mono hbase).trans (hb6.mono (by omega))
  clear hX1 hk1 hC1 hb5 d0 d1 k0 k1 hk hS hE hC
  have m0 := hk5.at 0 _ rfl
  have m1 := hk5.at 1 _ rfl
  have x0 := hX5.at 0 _ rfl
  have x1 := hX5.at 1 _ rfl
  have x2 := hX5.at 2 _ rfl
  have x3 := hX5.at 3 _ rfl
  have x4 := hX5.at 4 _ rfl
  have x5 := hX5.at 5 _ rfl
  obtain ⟨g, cap, hAc, hgb, hgl, cells, hgc⟩ := Kd.S_form hS5 (by omega)
  injection hAc with hAc1 _ hAc2
  subst hAc1
  subst hAc2
  obtain ⟨oki, vM, y0, y1, y2, f1, f2, hR, hoki, hH⟩ := box_lend hS5 hi hb
  obtain ⟨Am, cm, rfl⟩ := Kd.R_slice hR
  have hng : g ≠ pb := fun he => (Kd.S_R hS5).1 g (by simp [Value.ownBlock]) he
  have hng2 : pb ≠ g := Ne.symm hng
  have hgx : g < w.heap.size := hSl g (by simp [Value.ownBlock])
  have ea : (⟨g, 0, none⟩ : Addr).add (i * 3) = ⟨g, i * 3, none⟩ := add_plain _ _
  have hgo : some g ≠ (Value.slice Am l.length cm).ownBlock := fun he => (hoki g (hR.1 g he.symm)).2 rfl
  have hpo : some pb ≠ (Value.slice Am l.length cm).ownBlock := fun he => (hoki pb (hR.1 pb he.symm)).1 rfl
  have HI := indexU_calls u w.heap.size Am cm l (fun m => decide (m.uid = u)) w5 (Kd.R_reads' hR).2.2 rfl x2 (by omega)
  rw [hfk] at HI
  replace HI := Lib.hid HI
  clear hfk
  obtain ⟨gm, cm', hAm, hmb, hml, mc, hmt⟩ := Kd.R_form hR (by omega)
  injection hAm with hAm1 _ hAm2
  subst hAm1
  subst hAm2
  go_wp2_with fail
  refine HI.out.mono ?_
  rintro e w6 ⟨rfl, hb7⟩
  have hz6 := hb7.size
  have hk6 := (hk5.below hb7 (by omega)).drew
  have hX6 := (hX5.below hb7 (by omega)).drew
  have hR6 := Kd.R_drew (Kd.R_below hR hb7)
  have hH6 := Kd.H_drew (Kd.H_below hH hb7)
  have hE6 := Kd.R_drew (Kd.R_below hE5 hb7)
  have hB6 := below_drew (hB5.trans (hb7.mono (by omega)))
  have z2 := cell_drew' ((hb7.cell (p := ⟨g, i * 3 + 2, none⟩) hgl).trans y2)
  have z0 := hk6.at 0 _ rfl
  have z3 := hX6.at 3 _ rfl
  have q0 := (hk5.below hb7 (by omega)).at 0 _ rfl
  have q1 := (hX5.below hb7 (by omega)).at 0 _ rfl
  obtain ⟨_, hcapm, _⟩ := Kd.R_reads' hR6
  obtain ⟨⟨uo, zo⟩, zf⟩ := row_cells hR6 (j * 3 + 1) (by omega)
  have e2 : (⟨gm, 0, none⟩ : Addr).add (j * 3) = ⟨gm, j * 3, none⟩ := add_plain _ _
  have n1 : pb ≠ gm := fun he => hpo (by rw [he]; rfl)
  have n2 : g ≠ gm := fun he => hgo (by rw [he]; rfl)
  have hokm := (hoki gm (hR.1 gm rfl))
  have hgmx : w.heap.size ≠ gm := by
    intro he
    rw [← he, hXT5] at hmt
    injection hmt with hmt
    injection hmt with _ hmt _
    revert hmt; decide
  have z0' := cell_other' z0 (c := gm) (j := j * 3 + 1) n1 (.int .i64 f)
  have z2' := cell_other' z2 (c := gm) (j := j * 3 + 1) n2 (.int .i64 f)
  have z3' := cell_other' z3 (c := gm) (j := j * 3 + 1) hgmx (.int .i64 f)
  have hmt6 : w6.drew.heap[gm]? = some (.cells mc 84 (0, 0)) := (hb7.block gm hml).trans hmt
  have hgr : w6.drew.grownBy (w6.drew.setCell ⟨gm, j * 3 + 1, none⟩ (.int .i64 f)) (some gm) := grown_set (World.grownBy.refl _ _) _ _
  have hR7 := row_flag hR6 hj hm f
  have hS7 := box_back (Kd.H_grown hH6 hgr (fun k hk => by obtain rfl := Option.some.inj hk; exact hR.1 _ rfl)) hR7
  have hE7 := Kd.R_mono (Kd.R_far (p := ⟨gm, j * 3 + 1, none⟩) (Kd.R_types hE6 hmt6 (by decide)) (fun k hk => hk.2) (.int .i64 f)) (fun k hk => hk.1)
  have hst : StB (w6.drew.setCell ⟨gm, j * 3 + 1, none⟩ (.int .i64 f)) base pb (bs.set i (nm, nx, l.set j ⟨m.uid, f, m.text⟩)) es := ⟨_, _, hk6.other (c := gm) (j := j * 3 + 1) (fun he => n1 he.symm) _, hp, hS7, hE7⟩
  have hB7 := Below.setCell (p := ⟨gm, j * 3 + 1, none⟩) hB6 hmb (.int .i64 f)
  clear hR hH hS5 hE5 hR6 hH6 hE6 hR7 hS7 hE7 hmt6 hmt hgr hb7 hXT5 hgc
  go_wp2_with fail
  go_region_held3 (fun w' => w'.cell? ⟨pb, 0, none⟩ = some (.slice (some ⟨g, 0, none⟩) bs.length c) ∧ w'.cell? ⟨g, i * 3 + 2, none⟩ = some (.slice (some ⟨gm, 0, none⟩) l.length cm) ∧ w'.cell? ⟨w.heap.size, 3, none⟩ = some (.int .i64 f))
    (first | exact ⟨z0, z2, z3⟩ | exact ⟨z0', z2', z3'⟩ | go_keep) (fail)
  go_wp2_with fail
  go_ret
  exact ⟨(by first | rfl | (simp; done) | (simp [*]; done) | (rw [if_pos (by omega)]; first | rfl | (simp; done)) | (rw [if_neg (by omega)]; first | rfl | (simp; done)) | (simp; omega)), hst, hB7⟩
end Go.Proofs.YtijdghplfhfpaaaDoor.H

/- Boxes: the reference's entered: the loop over the mails; Expunge. -/
namespace Go.Proofs.YtijdghplfhfpaaaDoor.H
open Go.RowKit Go.Proofs.YtijdghplfhfpaaaDoorW.PrintWords Go.Proofs.YtijdghplfhfpaaaDoorW.PrintLast Go.Proofs.YtijdghplfhfpaaaDoor.U
set_option linter.unusedVariables false
set_option linter.unusedSimpArgs false
set_option maxHeartbeats 2000000 in
set_option maxRecDepth 100000 in
theorem entered_expunge (Z : Nat → Prop) (i : Nat) (bx : ByteArray) (u f : Int) (to_ tx : ByteArray) (A : Option Addr) (c : Nat) (bs : List ABox) (A2 : Option Addr) (c2 : Nat) (es : List AEntry) (w : World) (hrd : Rd Z w A bs A2 es) (hZ : ∀ k, Z k → k < w.heap.size) (hc : bs.length ≤ c) (hinv : InvS bs es) (hfi : findG bx bs 0 = (i : Int)) (hi : i < bs.length) :
    Calls Tryd.prog 57 #[.agg #[.slice A bs.length c, .slice A2 es.length c2], .agg #[.int .i64 4, .string bx, .int .i64 u, .int .i64 f, .string to_, .string tx]] w (PostSt Z w (entV bs es ⟨4, bx, u, f, to_, tx⟩)) := by
  obtain ⟨hr, hr2⟩ := hrd.now
  obtain ⟨nm, nx, l, hb⟩ : ∃ nm nx l, bs[i] = (nm, nx, l) := ⟨_, _, _, rfl⟩
  have hgd : GoodB (nm, nx, l) := by rw [← hb]; exact hinv.2.2 _ (List.getElem_mem hi)
  obtain ⟨g1, g2, g3, g4, g5⟩ := hgd
  simp only at g1 g2 g3 g4 g5
  have hfl : ∀ m ∈ l, 0 ≤ m.flags ∧ m.flags ≤ 31 := fun m hm => by obtain ⟨_, _, a, b, _⟩ := mails_mem _ _ g5 m hm; exact ⟨a, b⟩
  have i0 : (0 : Int) ≤ (i : Int) := by omega
  have i1 : ¬ (i : Int) < 0 := by omega
  have i2 : (i : Int) < (bs.length : Int) := by omega
  obtain ⟨ad, Ae, ce, e1, b0, b1, b2, hC⟩ := box_at hr i hi
  subst e1
  rw [add1] at b1
  rw [add2] at b2
  rw [hb] at b0 b1 b2 hC
  simp only at b0 b1 b2 hC
  have hm : mailV bs i ⟨4, bx, u, f, to_, tx⟩ = (0, bs.set i (nm, nx, l.filter keepM)) := by
    rw [← putMails_of hi hb, mailV, if_neg (by show ¬ ((4 : Int) = 2); decide), if_pos rfl, mailsAt_of hi hb]
  rw [entV_mail (x := ⟨4, bx, u, f, to_, tx⟩) (by show ¬ ((4 : Int) = 6); decide) (by show ¬ ((4 : Int) = 1); decide) hfi, hm]
  clear hm
  obtain ⟨W3, hW3⟩ : ∃ W3 : World, W3 = ((w.alloc (.cells #[.slice (some ad) bs.length c, .slice A2 es.length c2] 25)).alloc (.cells #[.int .i64 4, .string bx, .int .i64 u, .int .i64 f, .string to_, .string tx] 40)).alloc (.cells #[.slice none 0 0, .slice none 0 0] 25) := ⟨_, rfl⟩
  have hP0 : Blk W3 w.heap.size [.slice (some ad) bs.length c, .slice A2 es.length c2] := by rw [hW3]; exact ((Blk.made w _ _).alloc _).alloc _
  have hX0 : Blk W3 (w.heap.size + 1) [.int .i64 4, .string bx, .int .i64 u, .int .i64 f, .string to_, .string tx] := by rw [hW3]; exact (Blk.made_at _ _ _ (by simp)).alloc _
  have hQ0 : Blk W3 (w.heap.size + 1 + 1) [.slice none 0 0, .slice none 0 0] := by rw [hW3]; exact Blk.made_at _ _ _ (by simp)
  have hB0 : Below w.heap.size w W3 := by rw [hW3]; exact (by repeat (first | exact Below.refl _ _ | apply below_alloc | apply pw_below_drewN | apply below_drew1 | (refine Below.setCell ?_ (by first | (simp; done) | (simp; omega) | omega) _) ))
  have hz0 : W3.heap.size = w.heap.size + 1 + 1 + 1 := by rw [hW3]; simp
  replace hW3 := Lib.hid hW3
  have hi1 := hinv.1
  have hi2 := hinv.2.1
  have hb30 : ∀ b ∈ bs, b.2.2.length ≤ 1048576 := fun b hb => by have := (hinv.2.2 b hb).2.2.2.1; omega
  have HSC := Lib.hid (stateCopy_calls (some ad) c bs A2 c2 es W3 (Kd.C_below hr hB0) (Kd.C_below hr2 hB0) (by omega) (by omega) hb30)
  have HF := fun W hr => boxOf_calls (some ad) c bs bx W hr
  simp only [hfi] at HF
  replace HF := Lib.hid HF
  clear hfi
  go_enter Tryd.func57, Tryd.ntmps57
  go_wp2_with fail
  rw [← hW3.out]
  refine HSC.out.mono ?_
  rintro e w3 ⟨vB, vS, rfl, hS3, hE3, hb3⟩
  obtain ⟨Ab, cb, rfl⟩ := Kd.S_slice hS3
  obtain ⟨As, cs, rfl⟩ := Kd.R_slice hE3
  have hz3 := hb3.size
  obtain ⟨pb, hpbe⟩ : ∃ pb, pb = w3.heap.size := ⟨_, rfl⟩
  obtain ⟨base, hbe⟩ : ∃ base, base = W3.heap.size := ⟨_, rfl⟩
  obtain ⟨w5, hW5⟩ : ∃ w5 : World, w5 = w3.alloc (.cells #[.slice Ab bs.length cb, .slice As es.length cs] 25) := ⟨_, rfl⟩
  have hP5 : Blk w5 w.heap.size [.slice (some ad) bs.length c, .slice A2 es.length c2] := by rw [hW5]; exact (hP0.below hb3 (by omega)).alloc _
  have hX5 : Blk w5 (w.heap.size + 1) [.int .i64 4, .string bx, .int .i64 u, .int .i64 f, .string to_, .string tx] := by rw [hW5]; exact (hX0.below hb3 (by omega)).alloc _
  have hQ5 : Blk w5 (w.heap.size + 1 + 1) [.slice none 0 0, .slice none 0 0] := by rw [hW5]; exact (hQ0.below hb3 (by omega)).alloc _
  have hk5 : Blk w5 pb [.slice Ab bs.length cb, .slice As es.length cs] := by rw [hW5, hpbe]; exact Blk.made _ _ _
  have hB5 : Below w.heap.size w w5 := by rw [hW5]; exact below_alloc' (hB0.trans (hb3.mono (by omega))) (by omega) _
  have hS5 : Kd.S kBox 77 w5 base (fun k => k ≠ pb) (.slice Ab bs.length cb) bs := by rw [hW5, hbe, hpbe]; exact Kd.S_mono (Kd.S_below (Kd.S_bound hS3) (by repeat (first | exact Below.refl _ _ | apply below_alloc | apply pw_below_drewN | apply below_drew1 | (refine Below.setCell ?_ (by first | (simp; done) | (simp; omega) | omega) _) ))) (fun k hk => by have := hk.2.2.1; show k ≠ _; omega)
  have hE5 : Kd.R kAEntry 40 w5 base (fun k => k ≠ pb) (.slice As es.length cs) es := by rw [hW5, hbe, hpbe]; exact Kd.R_mono (Kd.R_below (Kd.R_bound hE3) (by repeat (first | exact Below.refl _ _ | apply below_alloc | apply pw_below_drewN | apply below_drew1 | (refine Below.setCell ?_ (by first | (simp; done) | (simp; omega) | omega) _) ))) (fun k hk => by have := hk.2.2.1; show k ≠ _; omega)
  have hp : base ≤ pb := by omega
  have hbw : w.heap.size + 1 + 1 < base := by omega
  have hC5 := Kd.C_below hr hB5
  have hz5k := hk5.lt
  have hz5p := hP5.lt
  have hz5x := hX5.lt
  have hz5q := hQ5.lt
  have p0 := (hP0.below hb3 (by omega)).at 0 _ rfl
  have x1 := (hX0.below hb3 (by omega)).at 1 _ rfl
  have hlt1 : w.heap.size < w3.heap.size := by omega
  have hlt2 : w.heap.size + 1 < w3.heap.size := by omega
  replace hW5 := Lib.hid hW5
  replace hpbe := Lib.hid hpbe
  clear hP0 hX0 hQ0 hB0 hb3 hS3 hE3 hbe hz0 hz3 hW3 HSC
  go_wp2_with fail
  rw [← hW5.out, ← hpbe.out]
  clear p0 x1 hlt1 hlt2
  have p0 := hP5.at 0 _ rfl
  have p1 := hP5.at 1 _ rfl
  have x0 := hX5.at 0 _ rfl
  have x1 := hX5.at 1 _ rfl
  have x2 := hX5.at 2 _ rfl
  have x3 := hX5.at 3 _ rfl
  have x4 := hX5.at 4 _ rfl
  have x5 := hX5.at 5 _ rfl
  have k0 := hk5.at 0 _ rfl
  have k1 := hk5.at 1 _ rfl
  refine (HF.out _ hC5).mono ?_
  rintro e w' ⟨rfl, rfl⟩
  have hadw : (ad.add (i * 3)).block < w.heap.size := lt_of_cell' b0
  have hzw : w.heap.size ≤ w5.heap.size := hB5.size
  have hCl : Kd.C kAMail w5 Ae l.length l := Kd.C_below hC hB5
  have b5 := (hB5.cell (p := ⟨(ad.add (i * 3)).block, (ad.add (i * 3)).off + 2, none⟩) hadw).trans b2
  have hl63 := hC.2.1
  clear b0 b1 k0 k1
  go_wp2_with fail
  go_loopw [10, 11, 12] (fun vK av iv wr => ∃ k : Nat, k ≤ l.length ∧ iv = .int .i64 k ∧ av = .int .i64 (findU u (l.take k) 0) ∧ Kd.R kAMail 84 wr w5.heap.size (fun _ => True) vK ((l.take k).filter keepM) ∧ Below w5.heap.size w5 wr) (fun _ _ iv _ => l.length - (intOf iv).toNat)
  case atStart => exact ⟨0, Nat.zero_le _, rfl, rfl, Kd.R_nil _ _ _ _ _, Below.refl _ _⟩
  case round =>
    obtain ⟨k, hk, rfl, rfl, hK, hBk⟩ := hrel
    obtain ⟨vK, hvK⟩ : ∃ vK, vK = u10 := ⟨_, rfl⟩
    rw [← hvK] at hK ⊢
    clear hvK
    have p0k := (hBk.cell (p := ⟨w.heap.size, 0, none⟩) hz5p).trans p0
    have x0k := (hBk.cell (p := ⟨w.heap.size + 1, 0, none⟩) hz5x).trans x0
    have x2k := (hBk.cell (p := ⟨w.heap.size + 1, 2, none⟩) hz5x).trans x2
    have b2k := (hBk.cell (p := ⟨(ad.add (i * 3)).block, (ad.add (i * 3)).off + 2, none⟩) (by show (ad.add (i * 3)).block < w5.heap.size; omega)).trans b5
    have hzk := hBk.size
    have hpk : w.heap.size < wr.heap.size := by omega
    have hxk : w.heap.size + 1 < wr.heap.size := by omega
    have hak : (ad.add (i * 3)).block < wr.heap.size := by omega
    by_cases hlt : k < l.length
    · obtain ⟨ad2, e2, hx0, hxj⟩ := flat_at (Kd.C_below hCl hBk) k hlt
      subst e2
      have m0 := hx0 _ rfl; have m1 := hxj 1 _ (by decide) rfl; have m2 := hxj 2 _ (by decide) rfl
      clear hx0 hxj
      have hts := Lib.hid (findU_step (u := u) hlt g5)
      have htf := Lib.hid (filter_step keepM hlt)
      have hfx := hfl _ (List.getElem_mem hlt)
      have hlk : ((l.take k).filter keepM).length ≤ k := Nat.le_trans (List.length_filter_le _ _) (List.length_take_le _ _)
      have k0 : (0 : Int) ≤ (k : Int) := by omega
      have k1 : (k : Int) < (l.length : Int) := by omega
      have hkeep : keepM l[k] = decide (l[k].flags / 8 % 2 = 0) := rfl
      generalize l[k] = x at *
      generalize findU u (l.take k) 0 = fu at *
      obtain ⟨A5, c5, rfl⟩ := Kd.R_slice hK
      generalize hkl : (l.take k).filter keepM = kl at *
      have d1 : Int.tdiv x.flags 8 = x.flags / 8 := Int.tdiv_eq_ediv_of_nonneg hfx.1
      have hT := Blk.made wr #[.int .i64 x.uid, .int .i64 x.flags, .string x.text] 84
      have hKa := Kd.R_below hK (show Below wr.heap.size wr (wr.alloc (.cells #[.int .i64 x.uid, .int .i64 x.flags, .string x.text] 84)) from (by repeat (first | exact Below.refl _ _ | apply below_alloc | apply pw_below_drewN | apply below_drew1 | (refine Below.setCell ?_ (by first | (simp; done) | (simp; omega) | omega) _) )))
      have hno : some wr.heap.size ≠ (Value.slice A5 kl.length c5).ownBlock := fun he => by have := Kd.R_lt hK _ he.symm; omega
      by_cases hu : x.uid = u
      · have hub : (x.uid == u) = true := by simp [hu]
        have hfu : findU u (l.take (k + 1)) 0 = (k : Int) := by rw [hts.out, if_pos hu]
        replace hfu := Lib.hid hfu
        clear hu hts
        by_cases hkp : x.flags / 8 % 2 = 0
        · have hkk : (l.take (k + 1)).filter keepM = kl ++ [x] := by rw [htf.out, if_pos (by rw [hkeep]; exact decide_eq_true hkp)]
          replace hkk := Lib.hid hkk
          have hkb : (x.flags / 8 % 2 == 0) = true := by simp [hkp]
          clear hkeep htf hkp
          go_wp2_with (at_builtin; refine snoc_list rowAMail w5.heap.size rfl _ _ rfl (.slice A5 kl.length c5) kl x [.int .i64 x.uid, .int .i64 x.flags, .string x.text] (by first | rfl | (simp [Act.eval]; done)) (by first | rfl | (simp [Act.eval]; done)) rfl hKa (by simp; omega) (by omega) ?_)
          intro v1 w6 hR6 hb6 hg6
          have hT6 := hT.grown hg6 hno
          have y0 := hT6.at 0 _ rfl
          have hz6 := hb6.size
          simp at hz6
          have x2n := (hb6.cell (p := ⟨w.heap.size + 1, 2, none⟩) hz5x).trans (cell_alloc' x2k _)
          have hB6 : Below w5.heap.size w5 w6 := Below.trans (below_alloc hBk _) hb6
          go_wp2_with fail
          go_roundw
          case rel => exact ⟨k + 1, hlt, by go_num, by rw [hfu.out], by rw [hkk.out]; exact hR6, hB6⟩
          case measure => simp [intOf]; omega
        · have hkk : (l.take (k + 1)).filter keepM = kl := by rw [htf.out, if_neg (by rw [hkeep]; simpa using hkp), List.append_nil]
          replace hkk := Lib.hid hkk
          have hkb : (x.flags / 8 % 2 == 0) = false := by simp [hkp]
          clear hkeep htf hkp
          go_wp2_with fail
          go_roundw
          case rel => exact ⟨k + 1, hlt, by go_num, by rw [hfu.out], by rw [hkk.out]; exact hKa, below_alloc hBk _⟩
          case measure => simp [intOf]; omega
      · have hub : (x.uid == u) = false := by simp [hu]
        have hfu : findU u (l.take (k + 1)) 0 = fu := by rw [hts.out, if_neg hu]
        replace hfu := Lib.hid hfu
        clear hu hts
        by_cases hkp : x.flags / 8 % 2 = 0
        · have hkk : (l.take (k + 1)).filter keepM = kl ++ [x] := by rw [htf.out, if_pos (by rw [hkeep]; exact decide_eq_true hkp)]
          replace hkk := Lib.hid hkk
          have hkb : (x.flags / 8 % 2 == 0) = true := by simp [hkp]
          clear hkeep htf hkp
          go_wp2_with (at_builtin; refine snoc_list rowAMail w5.heap.size rfl _ _ rfl (.slice A5 kl.length c5) kl x [.int .i64 x.uid, .int .i64 x.flags, .string x.text] (by first | rfl | (simp [Act.eval]; done)) (by first | rfl | (simp [Act.eval]; done)) rfl hKa (by simp; omega) (by omega) ?_)
          intro v1 w6 hR6 hb6 hg6
          have hT6 := hT.grown hg6 hno
          have y0 := hT6.at 0 _ rfl
          have hz6 := hb6.size
          simp at hz6
          have x2n := (hb6.cell (p := ⟨w.heap.size + 1, 2, none⟩) hz5x).trans (cell_alloc' x2k _)
          have hB6 : Below w5.heap.size w5 w6 := Below.trans (below_alloc hBk _) hb6
          go_wp2_with fail
          go_roundw
          case rel => exact ⟨k + 1, hlt, by go_num, by rw [hfu.out], by rw [hkk.out]; exact hR6, hB6⟩
          case measure => simp [intOf]; omega
        · have hkk : (l.take (k + 1)).filter keepM = kl := by rw [htf.out, if_neg (by rw [hkeep]; simpa using hkp), List.append_nil]
          replace hkk := Lib.hid hkk
          have hkb : (x.flags / 8 % 2 == 0) = false := by simp [hkp]
          clear hkeep htf hkp
          go_wp2_with fail
          go_roundw
          case rel => exact ⟨k + 1, hlt, by go_num, by rw [hfu.out], by rw [hkk.out]; exact hKa, below_alloc hBk _⟩
          case measure => simp [intOf]; omega
    · obtain rfl : k = l.length := by omega
      rw [List.take_length] at hK ⊢
      have k1 : ¬ (l.length : Int) < (l.length : Int) := by omega
      skip
      obtain ⟨g, cap, hAc, hgb, hgl, cells, hgc⟩ := Kd.S_form hS5 (by omega)
      injection hAc with hAc1 _ hAc2
      subst hAc1
      subst hAc2
      obtain ⟨oki, vM, y0, y1, y2, f1, f2, hR, hoki, hH⟩ := box_lend hS5 hi hb
      obtain ⟨Am, cm, rfl⟩ := Kd.R_slice hR
      have hng : g ≠ pb := fun he => (Kd.S_R hS5).1 g (by simp [Value.ownBlock]) he
      have hng2 : pb ≠ g := Ne.symm hng
      have ea : (⟨g, 0, none⟩ : Addr).add (i * 3) = ⟨g, i * 3, none⟩ := add_plain _ _
      have hgo : some g ≠ (Value.slice Am l.length cm).ownBlock := fun he => (hoki g (hR.1 g he.symm)).2 rfl
      have hpo : some pb ≠ (Value.slice Am l.length cm).ownBlock := fun he => (hoki pb (hR.1 pb he.symm)).1 rfl
      have k0k := (hBk.cell (p := ⟨pb, 0, none⟩) hz5k).trans (hk5.at 0 _ rfl)
      have k1k := (hBk.cell (p := ⟨pb, 1, none⟩) hz5k).trans (hk5.at 1 _ rfl)
      have y2k := (hBk.cell (p := ⟨g, i * 3 + 2, none⟩) hgl).trans y2
      have f2k := (hBk.frozen (p := ⟨g, i * 3 + 2, none⟩) hgl).trans f2
      have hkk := hk5.below hBk hz5k
      have hQk := hQ5.below hBk hz5q
      have hXk := hX5.below hBk hz5x
      have hEk := Kd.R_below hE5 hBk
      have hBB := hB5.trans (hBk.mono hzw)
      have hH1 := Kd.H_below (Kd.H_widen hH) hBk
      have hng3 : ∀ k, (oki k ∨ k ≠ pb ∧ w5.heap.size ≤ k) → k ≠ g := fun k hk => by
        rcases hk with hk | hk
        · exact (hoki k hk).2
        · omega
      have hR1 : Kd.R kAMail 84 wr base (fun k => oki k ∨ k ≠ pb ∧ w5.heap.size ≤ k) vK (l.filter keepM) := Kd.R_lower (Kd.R_mono (Kd.R_bound hK) (fun k hk => .inr ⟨by have := hk.2.1; omega, hk.2.1⟩)) (by omega)
      obtain ⟨A6, c6, rfl⟩ := Kd.R_slice hK
      have hS7 := box_back (box_hole2 (v1 := .slice A6 (l.filter keepM).length c6) hH1 hi rfl) (Kd.R_far (p := ⟨g, i * 3 + 2, none⟩) hR1 hng3 (.slice A6 (l.filter keepM).length c6))
      have hg7 : wr.heap[g]? = some (.cells cells 77 (0, 0)) := (hBk.block g hgl).trans hgc
      have hR7 := Kd.R_mono (Kd.R_far (p := ⟨g, i * 3 + 2, none⟩) (Kd.R_types hEk hg7 (by decide)) (fun k hk => hk.2) (.slice A6 (l.filter keepM).length c6)) (fun k hk => hk.1)
      have hk7 := hkk.other (c := g) (j := i * 3 + 2) hng (.slice A6 (l.filter keepM).length c6)
      have hQ7 := hQk.other (c := g) (j := i * 3 + 2) (by omega) (.slice A6 (l.filter keepM).length c6)
      generalize (l.filter keepM).length = nk at *
      have r0 := hk7.at 0 _ rfl
      have r1 := hk7.at 1 _ rfl
      have hlz := hQ7.lt
      have hgz : w.heap.size + 1 + 1 ≠ g := by omega
      obtain ⟨hn1, hn2, hn3, hCo⟩ := own_out (Z := Z) hS7 hR7 (fun k hk => by have := hZ k hk; omega)
      have q0 := (hQ7).at 0 _ rfl
      have q1 := (hQ7).at 1 _ rfl
      have q2 := (hQ7).free 0 _ rfl
      have q3 := (hQ7).free 1 _ rfl
      replace hn1 := Lib.hid hn1
      replace hn3 := Lib.hid hn3
      go_wp2_with fail
      refine bodyPost_ret (v := .tuple #[.agg #[.slice ((some ⟨g, 0, none⟩)) (bs.length) cb, .slice (As) (es.length) cs], .int .i64 0]) (by simp [results, Tryd.results57, go_sem, *]) rfl ?_
      exact ⟨(some ⟨g, 0, none⟩), cb, As, cs, by simp, by first | exact hn2 | (rw [← hn1.out]; exact hn2) | (simp; omega), hCo _ (by omega) _ _, (by repeat (first | exact Below.refl _ _ | apply below_alloc | apply pw_below_drewN | apply below_drew1 | (refine Below.setCell ?_ (by first | (simp; done) | (simp; omega) | omega) _) | exact hBB))⟩
end Go.Proofs.YtijdghplfhfpaaaDoor.H

/- Boxes: the reference's entered: Flag, Copy; the whole. -/
namespace Go.Proofs.YtijdghplfhfpaaaDoor.H
open Go.RowKit Go.Proofs.YtijdghplfhfpaaaDoorW.PrintWords Go.Proofs.YtijdghplfhfpaaaDoorW.PrintLast Go.Proofs.YtijdghplfhfpaaaDoor.U
set_option linter.unusedVariables false
set_option linter.unusedSimpArgs false
set_option maxHeartbeats 2000000 in
set_option maxRecDepth 100000 in
theorem entered_miss (Z : Nat → Prop) (i : Nat) (k : Int) (bx : ByteArray) (u f : Int) (to_ tx : ByteArray) (A : Option Addr) (c : Nat) (bs : List ABox) (A2 : Option Addr) (c2 : Nat) (es : List AEntry) (w : World) (hrd : Rd Z w A bs A2 es) (hZ : ∀ k, Z k → k < w.heap.size) (hc : bs.length ≤ c) (hinv : InvS bs es) (hk : k = 3 ∨ k = 5) (hfi : findG bx bs 0 = (i : Int)) (hi : i < bs.length) (hfk : findU u (mailsAt bs i) 0 < 0) :
    Calls Tryd.prog 57 #[.agg #[.slice A bs.length c, .slice A2 es.length c2], .agg #[.int .i64 k, .string bx, .int .i64 u, .int .i64 f, .string to_, .string tx]] w (PostSt Z w (entV bs es ⟨k, bx, u, f, to_, tx⟩)) := by
  obtain ⟨hr, hr2⟩ := hrd.now
  have b6 : (k == 6) = false := by rw [beq_eq_false_iff_ne]; omega
  have b1' : (k == 1) = false := by rw [beq_eq_false_iff_ne]; omega
  have b2' : (k == 2) = false := by rw [beq_eq_false_iff_ne]; omega
  have b4 : (k == 4) = false := by rw [beq_eq_false_iff_ne]; omega
  rw [entV_mail (x := ⟨k, bx, u, f, to_, tx⟩) (by show ¬ k = 6; omega) (by show ¬ k = 1; omega) hfi, mailV_miss (x := ⟨k, bx, u, f, to_, tx⟩) (by show ¬ k = 2; omega) (by show ¬ k = 4; omega) hfk]
  clear hk
  obtain ⟨kk, hkk⟩ : ∃ kk, kk = k := ⟨_, rfl⟩
  rw [← hkk] at b6 b1' b2' b4 ⊢
  clear hkk
  obtain ⟨nm, nx, l, hb⟩ : ∃ nm nx l, bs[i] = (nm, nx, l) := ⟨_, _, _, rfl⟩
  have hgd : GoodB (nm, nx, l) := by rw [← hb]; exact hinv.2.2 _ (List.getElem_mem hi)
  obtain ⟨g1, g2, g3, g4, g5⟩ := hgd
  simp only at g1 g2 g3 g4 g5
  have hfl : ∀ m ∈ l, 0 ≤ m.flags ∧ m.flags ≤ 31 := fun m hm => by obtain ⟨_, _, a, b, _⟩ := mails_mem _ _ g5 m hm; exact ⟨a, b⟩
  have i0 : (0 : Int) ≤ (i : Int) := by omega
  have i1 : ¬ (i : Int) < 0 := by omega
  have i2 : (i : Int) < (bs.length : Int) := by omega
  obtain ⟨ad, Ae, ce, e1, b0, b1, b2, hC⟩ := box_at hr i hi
  subst e1
  rw [add1] at b1
  rw [add2] at b2
  rw [hb] at b0 b1 b2 hC
  simp only at b0 b1 b2 hC
  rw [mailsAt_of hi hb] at hfk
  obtain ⟨fk, hfkk⟩ : ∃ fk, findU u l 0 = fk := ⟨_, rfl⟩
  rw [hfkk] at hfk
  obtain ⟨W3, hW3⟩ : ∃ W3 : World, W3 = ((w.alloc (.cells #[.slice (some ad) bs.length c, .slice A2 es.length c2] 25)).alloc (.cells #[.int .i64 kk, .string bx, .int .i64 u, .int .i64 f, .string to_, .string tx] 40)).alloc (.cells #[.slice none 0 0, .slice none 0 0] 25) := ⟨_, rfl⟩
  have hP0 : Blk W3 w.heap.size [.slice (some ad) bs.length c, .slice A2 es.length c2] := by rw [hW3]; exact ((Blk.made w _ _).alloc _).alloc _
  have hX0 : Blk W3 (w.heap.size + 1) [.int .i64 kk, .string bx, .int .i64 u, .int .i64 f, .string to_, .string tx] := by rw [hW3]; exact (Blk.made_at _ _ _ (by simp)).alloc _
  have hQ0 : Blk W3 (w.heap.size + 1 + 1) [.slice none 0 0, .slice none 0 0] := by rw [hW3]; exact Blk.made_at _ _ _ (by simp)
  have hB0 : Below w.heap.size w W3 := by rw [hW3]; exact (by repeat (first | exact Below.refl _ _ | apply below_alloc | apply pw_below_drewN | apply below_drew1 | (refine Below.setCell ?_ (by first | (simp; done) | (simp; omega) | omega) _) ))
  have hz0 : W3.heap.size = w.heap.size + 1 + 1 + 1 := by rw [hW3]; simp
  replace hW3 := Lib.hid hW3
  have hi1 := hinv.1
  have hi2 := hinv.2.1
  have hb30 : ∀ b ∈ bs, b.2.2.length ≤ 1048576 := fun b hb => by have := (hinv.2.2 b hb).2.2.2.1; omega
  have HSC := Lib.hid (stateCopy_calls (some ad) c bs A2 c2 es W3 (Kd.C_below hr hB0) (Kd.C_below hr2 hB0) (by omega) (by omega) hb30)
  have HF := fun W hr => boxOf_calls (some ad) c bs bx W hr
  simp only [hfi] at HF
  replace HF := Lib.hid HF
  clear hfi
  go_enter Tryd.func57, Tryd.ntmps57
  go_wp2_with fail
  rw [← hW3.out]
  refine HSC.out.mono ?_
  rintro e w3 ⟨vB, vS, rfl, hS3, hE3, hb3⟩
  obtain ⟨Ab, cb, rfl⟩ := Kd.S_slice hS3
  obtain ⟨As, cs, rfl⟩ := Kd.R_slice hE3
  have hz3 := hb3.size
  obtain ⟨pb, hpbe⟩ : ∃ pb, pb = w3.heap.size := ⟨_, rfl⟩
  obtain ⟨base, hbe⟩ : ∃ base, base = W3.heap.size := ⟨_, rfl⟩
  obtain ⟨w5, hW5⟩ : ∃ w5 : World, w5 = w3.alloc (.cells #[.slice Ab bs.length cb, .slice As es.length cs] 25) := ⟨_, rfl⟩
  have hP5 : Blk w5 w.heap.size [.slice (some ad) bs.length c, .slice A2 es.length c2] := by rw [hW5]; exact (hP0.below hb3 (by omega)).alloc _
  have hX5 : Blk w5 (w.heap.size + 1) [.int .i64 kk, .string bx, .int .i64 u, .int .i64 f, .string to_, .string tx] := by rw [hW5]; exact (hX0.below hb3 (by omega)).alloc _
  have hQ5 : Blk w5 (w.heap.size + 1 + 1) [.slice none 0 0, .slice none 0 0] := by rw [hW5]; exact (hQ0.below hb3 (by omega)).alloc _
  have hk5 : Blk w5 pb [.slice Ab bs.length cb, .slice As es.length cs] := by rw [hW5, hpbe]; exact Blk.made _ _ _
  have hB5 : Below w.heap.size w w5 := by rw [hW5]; exact below_alloc' (hB0.trans (hb3.mono (by omega))) (by omega) _
  have hS5 : Kd.S kBox 77 w5 base (fun k => k ≠ pb) (.slice Ab bs.length cb) bs := by rw [hW5, hbe, hpbe]; exact Kd.S_mono (Kd.S_below (Kd.S_bound hS3) (by repeat (first | exact Below.refl _ _ | apply below_alloc | apply pw_below_drewN | apply below_drew1 | (refine Below.setCell ?_ (by first | (simp; done) | (simp; omega) | omega) _) ))) (fun k hk => by have := hk.2.2.1; show k ≠ _; omega)
  have hE5 : Kd.R kAEntry 40 w5 base (fun k => k ≠ pb) (.slice As es.length cs) es := by rw [hW5, hbe, hpbe]; exact Kd.R_mono (Kd.R_below (Kd.R_bound hE3) (by repeat (first | exact Below.refl _ _ | apply below_alloc | apply pw_below_drewN | apply below_drew1 | (refine Below.setCell ?_ (by first | (simp; done) | (simp; omega) | omega) _) ))) (fun k hk => by have := hk.2.2.1; show k ≠ _; omega)
  have hp : base ≤ pb := by omega
  have hbw : w.heap.size + 1 + 1 < base := by omega
  have hC5 := Kd.C_below hr hB5
  have hz5k := hk5.lt
  have hz5p := hP5.lt
  have hz5x := hX5.lt
  have hz5q := hQ5.lt
  have p0 := (hP0.below hb3 (by omega)).at 0 _ rfl
  have x1 := (hX0.below hb3 (by omega)).at 1 _ rfl
  have hlt1 : w.heap.size < w3.heap.size := by omega
  have hlt2 : w.heap.size + 1 < w3.heap.size := by omega
  replace hW5 := Lib.hid hW5
  replace hpbe := Lib.hid hpbe
  clear hP0 hX0 hQ0 hB0 hb3 hS3 hE3 hbe hz0 hz3 hW3 HSC
  go_wp2_with fail
  rw [← hW5.out, ← hpbe.out]
  clear p0 x1 hlt1 hlt2
  have p0 := hP5.at 0 _ rfl
  have p1 := hP5.at 1 _ rfl
  have x0 := hX5.at 0 _ rfl
  have x1 := hX5.at 1 _ rfl
  have x2 := hX5.at 2 _ rfl
  have x3 := hX5.at 3 _ rfl
  have x4 := hX5.at 4 _ rfl
  have x5 := hX5.at 5 _ rfl
  have k0 := hk5.at 0 _ rfl
  have k1 := hk5.at 1 _ rfl
  refine (HF.out _ hC5).mono ?_
  rintro e w' ⟨rfl, rfl⟩
  have hadw : (ad.add (i * 3)).block < w.heap.size := lt_of_cell' b0
  have hzw : w.heap.size ≤ w5.heap.size := hB5.size
  have hCl : Kd.C kAMail w5 Ae l.length l := Kd.C_below hC hB5
  have b5 := (hB5.cell (p := ⟨(ad.add (i * 3)).block, (ad.add (i * 3)).off + 2, none⟩) hadw).trans b2
  have hl63 := hC.2.1
  clear b0 b1 k0 k1
  go_wp2_with fail
  go_loopw [10, 11, 12] (fun vK av iv wr => ∃ k : Nat, k ≤ l.length ∧ iv = .int .i64 k ∧ av = .int .i64 (findU u (l.take k) 0) ∧ Kd.R kAMail 84 wr w5.heap.size (fun _ => True) vK ((l.take k).filter keepM) ∧ Below w5.heap.size w5 wr) (fun _ _ iv _ => l.length - (intOf iv).toNat)
  case atStart => exact ⟨0, Nat.zero_le _, rfl, rfl, Kd.R_nil _ _ _ _ _, Below.refl _ _⟩
  case round =>
    obtain ⟨k, hk, rfl, rfl, hK, hBk⟩ := hrel
    obtain ⟨vK, hvK⟩ : ∃ vK, vK = u10 := ⟨_, rfl⟩
    rw [← hvK] at hK ⊢
    clear hvK
    have p0k := (hBk.cell (p := ⟨w.heap.size, 0, none⟩) hz5p).trans p0
    have x0k := (hBk.cell (p := ⟨w.heap.size + 1, 0, none⟩) hz5x).trans x0
    have x2k := (hBk.cell (p := ⟨w.heap.size + 1, 2, none⟩) hz5x).trans x2
    have b2k := (hBk.cell (p := ⟨(ad.add (i * 3)).block, (ad.add (i * 3)).off + 2, none⟩) (by show (ad.add (i * 3)).block < w5.heap.size; omega)).trans b5
    have hzk := hBk.size
    have hpk : w.heap.size < wr.heap.size := by omega
    have hxk : w.heap.size + 1 < wr.heap.size := by omega
    have hak : (ad.add (i * 3)).block < wr.heap.size := by omega
    by_cases hlt : k < l.length
    · obtain ⟨ad2, e2, hx0, hxj⟩ := flat_at (Kd.C_below hCl hBk) k hlt
      subst e2
      have m0 := hx0 _ rfl; have m1 := hxj 1 _ (by decide) rfl; have m2 := hxj 2 _ (by decide) rfl
      clear hx0 hxj
      have hts := Lib.hid (findU_step (u := u) hlt g5)
      have htf := Lib.hid (filter_step keepM hlt)
      have hfx := hfl _ (List.getElem_mem hlt)
      have hlk : ((l.take k).filter keepM).length ≤ k := Nat.le_trans (List.length_filter_le _ _) (List.length_take_le _ _)
      have k0 : (0 : Int) ≤ (k : Int) := by omega
      have k1 : (k : Int) < (l.length : Int) := by omega
      have hkeep : keepM l[k] = decide (l[k].flags / 8 % 2 = 0) := rfl
      generalize l[k] = x at *
      generalize findU u (l.take k) 0 = fu at *
      obtain ⟨A5, c5, rfl⟩ := Kd.R_slice hK
      generalize hkl : (l.take k).filter keepM = kl at *
      have d1 : Int.tdiv x.flags 8 = x.flags / 8 := Int.tdiv_eq_ediv_of_nonneg hfx.1
      have hT := Blk.made wr #[.int .i64 x.uid, .int .i64 x.flags, .string x.text] 84
      have hKa := Kd.R_below hK (show Below wr.heap.size wr (wr.alloc (.cells #[.int .i64 x.uid, .int .i64 x.flags, .string x.text] 84)) from (by repeat (first | exact Below.refl _ _ | apply below_alloc | apply pw_below_drewN | apply below_drew1 | (refine Below.setCell ?_ (by first | (simp; done) | (simp; omega) | omega) _) )))
      have hno : some wr.heap.size ≠ (Value.slice A5 kl.length c5).ownBlock := fun he => by have := Kd.R_lt hK _ he.symm; omega
      by_cases hu : x.uid = u
      · have hub : (x.uid == u) = true := by simp [hu]
        have hfu : findU u (l.take (k + 1)) 0 = (k : Int) := by rw [hts.out, if_pos hu]
        replace hfu := Lib.hid hfu
        clear hu hts
        by_cases hkp : x.flags / 8 % 2 = 0
        · have hkk : (l.take (k + 1)).filter keepM = kl ++ [x] := by rw [htf.out, if_pos (by rw [hkeep]; exact decide_eq_true hkp)]
          replace hkk := Lib.hid hkk
          have hkb : (x.flags / 8 % 2 == 0) = true := by simp [hkp]
          clear hkeep htf hkp
          go_wp2_with (at_builtin; refine snoc_list rowAMail w5.heap.size rfl _ _ rfl (.slice A5 kl.length c5) kl x [.int .i64 x.uid, .int .i64 x.flags, .string x.text] (by first | rfl | (simp [Act.eval]; done)) (by first | rfl | (simp [Act.eval]; done)) rfl hKa (by simp; omega) (by omega) ?_)
          intro v1 w6 hR6 hb6 hg6
          have hT6 := hT.grown hg6 hno
          have y0 := hT6.at 0 _ rfl
          have hz6 := hb6.size
          simp at hz6
          have x2n := (hb6.cell (p := ⟨w.heap.size + 1, 2, none⟩) hz5x).trans (cell_alloc' x2k _)
          have hB6 : Below w5.heap.size w5 w6 := Below.trans (below_alloc hBk _) hb6
          go_wp2_with fail
          go_roundw
          case rel => exact ⟨k + 1, hlt, by go_num, by rw [hfu.out], by rw [hkk.out]; exact hR6, hB6⟩
          case measure => simp [intOf]; omega
        · have hkk : (l.take (k + 1)).filter keepM = kl := by rw [htf.out, if_neg (by rw [hkeep]; simpa using hkp), List.append_nil]
          replace hkk := Lib.hid hkk
          have hkb : (x.flags / 8 % 2 == 0) = false := by simp [hkp]
          clear hkeep htf hkp
          go_wp2_with fail
          go_roundw
          case rel => exact ⟨k + 1, hlt, by go_num, by rw [hfu.out], by rw [hkk.out]; exact hKa, below_alloc hBk _⟩
          case measure => simp [intOf]; omega
      · have hub : (x.uid == u) = false := by simp [hu]
        have hfu : findU u (l.take (k + 1)) 0 = fu := by rw [hts.out, if_neg hu]
        replace hfu := Lib.hid hfu
        clear hu hts
        by_cases hkp : x.flags / 8 % 2 = 0
        · have hkk : (l.take (k + 1)).filter keepM = kl ++ [x] := by rw [htf.out, if_pos (by rw [hkeep]; exact decide_eq_true hkp)]
          replace hkk := Lib.hid hkk
          have hkb : (x.flags / 8 % 2 == 0) = true := by simp [hkp]
          clear hkeep htf hkp
          go_wp2_with (at_builtin; refine snoc_list rowAMail w5.heap.size rfl _ _ rfl (.slice A5 kl.length c5) kl x [.int .i64 x.uid, .int .i64 x.flags, .string x.text] (by first | rfl | (simp [Act.eval]; done)) (by first | rfl | (simp [Act.eval]; done)) rfl hKa (by simp; omega) (by omega) ?_)
          intro v1 w6 hR6 hb6 hg6
          have hT6 := hT.grown hg6 hno
          have y0 := hT6.at 0 _ rfl
          have hz6 := hb6.size
          simp at hz6
          have x2n := (hb6.cell (p := ⟨w.heap.size + 1, 2, none⟩) hz5x).trans (cell_alloc' x2k _)
          have hB6 : Below w5.heap.size w5 w6 := Below.trans (below_alloc hBk _) hb6
          go_wp2_with fail
          go_roundw
          case rel => exact ⟨k + 1, hlt, by go_num, by rw [hfu.out], by rw [hkk.out]; exact hR6, hB6⟩
          case measure => simp [intOf]; omega
        · have hkk : (l.take (k + 1)).filter keepM = kl := by rw [htf.out, if_neg (by rw [hkeep]; simpa using hkp), List.append_nil]
          replace hkk := Lib.hid hkk
          have hkb : (x.flags / 8 % 2 == 0) = false := by simp [hkp]
          clear hkeep htf hkp
          go_wp2_with fail
          go_roundw
          case rel => exact ⟨k + 1, hlt, by go_num, by rw [hfu.out], by rw [hkk.out]; exact hKa, below_alloc hBk _⟩
          case measure => simp [intOf]; omega
    · obtain rfl : k = l.length := by omega
      rw [List.take_length] at hK ⊢
      have k1 : ¬ (l.length : Int) < (l.length : Int) := by omega
      skip
      have hQk := hQ5.below hBk hz5q
      have hBB := hB5.trans (hBk.mono hzw)
      have p1k := (hBk.cell (p := ⟨w.heap.size, 1, none⟩) hz5p).trans p1
      have hlz := hQk.lt
      replace hfkk := Lib.hid hfkk
      rw [hfkk.out]
      have q0 := hQk.at 0 _ rfl
      have q1 := hQk.at 1 _ rfl
      have q2 := hQk.free 0 _ rfl
      have q3 := hQk.free 1 _ rfl
      go_wp2_with fail
      refine bodyPost_ret (v := .tuple #[.agg #[.slice (some ad) bs.length c, .slice A2 es.length c2], .int .i64 7]) (by simp [results, Tryd.results57, go_sem, *]) rfl ?_
      exact ⟨some ad, c, A2, c2, rfl, hc, hrd.below (by repeat (first | exact Below.refl _ _ | apply below_alloc | apply pw_below_drewN | apply below_drew1 | (refine Below.setCell ?_ (by first | (simp; done) | (simp; omega) | omega) _) | exact hBB)), (by repeat (first | exact Below.refl _ _ | apply below_alloc | apply pw_below_drewN | apply below_drew1 | (refine Below.setCell ?_ (by first | (simp; done) | (simp; omega) | omega) _) | exact hBB))⟩
end Go.Proofs.YtijdghplfhfpaaaDoor.H

/- Boxes: the reference's entered: Flag, Copy; the whole. -/
namespace Go.Proofs.YtijdghplfhfpaaaDoor.H
open Go.RowKit Go.Proofs.YtijdghplfhfpaaaDoorW.PrintWords Go.Proofs.YtijdghplfhfpaaaDoorW.PrintLast Go.Proofs.YtijdghplfhfpaaaDoor.U
set_option linter.unusedVariables false
set_option linter.unusedSimpArgs false
set_option maxHeartbeats 2000000 in
set_option maxRecDepth 100000 in
theorem entered_flag (Z : Nat → Prop) (i j : Nat) (bx : ByteArray) (u f : Int) (to_ tx : ByteArray) (A : Option Addr) (c : Nat) (bs : List ABox) (A2 : Option Addr) (c2 : Nat) (es : List AEntry) (w : World) (hrd : Rd Z w A bs A2 es) (hZ : ∀ k, Z k → k < w.heap.size) (hc : bs.length ≤ c) (hinv : InvS bs es) (hfi : findG bx bs 0 = (i : Int)) (hi : i < bs.length) (hfk : findU u (mailsAt bs i) 0 = (j : Int)) (hj : j < (mailsAt bs i).length) :
    Calls Tryd.prog 57 #[.agg #[.slice A bs.length c, .slice A2 es.length c2], .agg #[.int .i64 3, .string bx, .int .i64 u, .int .i64 f, .string to_, .string tx]] w (PostSt Z w (entV bs es ⟨3, bx, u, f, to_, tx⟩)) := by
  obtain ⟨hr, hr2⟩ := hrd.now
  obtain ⟨nm, nx, l, hb⟩ : ∃ nm nx l, bs[i] = (nm, nx, l) := ⟨_, _, _, rfl⟩
  have hgd : GoodB (nm, nx, l) := by rw [← hb]; exact hinv.2.2 _ (List.getElem_mem hi)
  obtain ⟨g1, g2, g3, g4, g5⟩ := hgd
  simp only at g1 g2 g3 g4 g5
  have hfl : ∀ m ∈ l, 0 ≤ m.flags ∧ m.flags ≤ 31 := fun m hm => by obtain ⟨_, _, a, b, _⟩ := mails_mem _ _ g5 m hm; exact ⟨a, b⟩
  have i0 : (0 : Int) ≤ (i : Int) := by omega
  have i1 : ¬ (i : Int) < 0 := by omega
  have i2 : (i : Int) < (bs.length : Int) := by omega
  obtain ⟨ad, Ae, ce, e1, b0, b1, b2, hC⟩ := box_at hr i hi
  subst e1
  rw [add1] at b1
  rw [add2] at b2
  rw [hb] at b0 b1 b2 hC
  simp only at b0 b1 b2 hC
  rw [mailsAt_of hi hb] at hfk hj
  obtain ⟨mm, hmm⟩ : ∃ mm, l[j] = mm := ⟨_, rfl⟩
  have hmv : mailV bs i ⟨3, bx, u, f, to_, tx⟩ = (0, bs.set i (nm, nx, l.set j ⟨mm.uid, f, mm.text⟩)) := by
    rw [← putMails_of hi hb, mailV, if_neg (by show ¬ ((3 : Int) = 2); decide), if_neg (by show ¬ ((3 : Int) = 4); decide), mailsAt_of hi hb]
    simp only [hfk]
    rw [if_neg (by omega), if_pos trivial, Int.toNat_natCast, flagsAt, List.getElem?_eq_getElem hj, hmm]
  rw [entV_mail (x := ⟨3, bx, u, f, to_, tx⟩) (by show ¬ ((3 : Int) = 6); decide) (by show ¬ ((3 : Int) = 1); decide) hfi, hmv]
  replace hmm := Lib.hid hmm
  clear hmv
  replace hfk := Lib.hid hfk
  obtain ⟨W3, hW3⟩ : ∃ W3 : World, W3 = ((w.alloc (.cells #[.slice (some ad) bs.length c, .slice A2 es.length c2] 25)).alloc (.cells #[.int .i64 3, .string bx, .int .i64 u, .int .i64 f, .string to_, .string tx] 40)).alloc (.cells #[.slice none 0 0, .slice none 0 0] 25) := ⟨_, rfl⟩
  have hP0 : Blk W3 w.heap.size [.slice (some ad) bs.length c, .slice A2 es.length c2] := by rw [hW3]; exact ((Blk.made w _ _).alloc _).alloc _
  have hX0 : Blk W3 (w.heap.size + 1) [.int .i64 3, .string bx, .int .i64 u, .int .i64 f, .string to_, .string tx] := by rw [hW3]; exact (Blk.made_at _ _ _ (by simp)).alloc _
  have hQ0 : Blk W3 (w.heap.size + 1 + 1) [.slice none 0 0, .slice none 0 0] := by rw [hW3]; exact Blk.made_at _ _ _ (by simp)
  have hB0 : Below w.heap.size w W3 := by rw [hW3]; exact (by repeat (first | exact Below.refl _ _ | apply below_alloc | apply pw_below_drewN | apply below_drew1 | (refine Below.setCell ?_ (by first | (simp; done) | (simp; omega) | omega) _) ))
  have hz0 : W3.heap.size = w.heap.size + 1 + 1 + 1 := by rw [hW3]; simp
  replace hW3 := Lib.hid hW3
  have hi1 := hinv.1
  have hi2 := hinv.2.1
  have hb30 : ∀ b ∈ bs, b.2.2.length ≤ 1048576 := fun b hb => by have := (hinv.2.2 b hb).2.2.2.1; omega
  have HSC := Lib.hid (stateCopy_calls (some ad) c bs A2 c2 es W3 (Kd.C_below hr hB0) (Kd.C_below hr2 hB0) (by omega) (by omega) hb30)
  have HF := fun W hr => boxOf_calls (some ad) c bs bx W hr
  simp only [hfi] at HF
  replace HF := Lib.hid HF
  clear hfi
  go_enter Tryd.func57, Tryd.ntmps57
  go_wp2_with fail
  rw [← hW3.out]
  refine HSC.out.mono ?_
  rintro e w3 ⟨vB, vS, rfl, hS3, hE3, hb3⟩
  obtain ⟨Ab, cb, rfl⟩ := Kd.S_slice hS3
  obtain ⟨As, cs, rfl⟩ := Kd.R_slice hE3
  have hz3 := hb3.size
  obtain ⟨pb, hpbe⟩ : ∃ pb, pb = w3.heap.size := ⟨_, rfl⟩
  obtain ⟨base, hbe⟩ : ∃ base, base = W3.heap.size := ⟨_, rfl⟩
  obtain ⟨w5, hW5⟩ : ∃ w5 : World, w5 = w3.alloc (.cells #[.slice Ab bs.length cb, .slice As es.length cs] 25) := ⟨_, rfl⟩
  have hP5 : Blk w5 w.heap.size [.slice (some ad) bs.length c, .slice A2 es.length c2] := by rw [hW5]; exact (hP0.below hb3 (by omega)).alloc _
  have hX5 : Blk w5 (w.heap.size + 1) [.int .i64 3, .string bx, .int .i64 u, .int .i64 f, .string to_, .string tx] := by rw [hW5]; exact (hX0.below hb3 (by omega)).alloc _
  have hQ5 : Blk w5 (w.heap.size + 1 + 1) [.slice none 0 0, .slice none 0 0] := by rw [hW5]; exact (hQ0.below hb3 (by omega)).alloc _
  have hk5 : Blk w5 pb [.slice Ab bs.length cb, .slice As es.length cs] := by rw [hW5, hpbe]; exact Blk.made _ _ _
  have hB5 : Below w.heap.size w w5 := by rw [hW5]; exact below_alloc' (hB0.trans (hb3.mono (by omega))) (by omega) _
  have hS5 : Kd.S kBox 77 w5 base (fun k => k ≠ pb) (.slice Ab bs.length cb) bs := by rw [hW5, hbe, hpbe]; exact Kd.S_mono (Kd.S_below (Kd.S_bound hS3) (by repeat (first | exact Below.refl _ _ | apply below_alloc | apply pw_below_drewN | apply below_drew1 | (refine Below.setCell ?_ (by first | (simp; done) | (simp; omega) | omega) _) ))) (fun k hk => by have := hk.2.2.1; show k ≠ _; omega)
  have hE5 : Kd.R kAEntry 40 w5 base (fun k => k ≠ pb) (.slice As es.length cs) es := by rw [hW5, hbe, hpbe]; exact Kd.R_mono (Kd.R_below (Kd.R_bound hE3) (by repeat (first | exact Below.refl _ _ | apply below_alloc | apply pw_below_drewN | apply below_drew1 | (refine Below.setCell ?_ (by first | (simp; done) | (simp; omega) | omega) _) ))) (fun k hk => by have := hk.2.2.1; show k ≠ _; omega)
  have hp : base ≤ pb := by omega
  have hbw : w.heap.size + 1 + 1 < base := by omega
  have hC5 := Kd.C_below hr hB5
  have hz5k := hk5.lt
  have hz5p := hP5.lt
  have hz5x := hX5.lt
  have hz5q := hQ5.lt
  have p0 := (hP0.below hb3 (by omega)).at 0 _ rfl
  have x1 := (hX0.below hb3 (by omega)).at 1 _ rfl
  have hlt1 : w.heap.size < w3.heap.size := by omega
  have hlt2 : w.heap.size + 1 < w3.heap.size := by omega
  replace hW5 := Lib.hid hW5
  replace hpbe := Lib.hid hpbe
  clear hP0 hX0 hQ0 hB0 hb3 hS3 hE3 hbe hz0 hz3 hW3 HSC
  go_wp2_with fail
  rw [← hW5.out, ← hpbe.out]
  clear p0 x1 hlt1 hlt2
  have p0 := hP5.at 0 _ rfl
  have p1 := hP5.at 1 _ rfl
  have x0 := hX5.at 0 _ rfl
  have x1 := hX5.at 1 _ rfl
  have x2 := hX5.at 2 _ rfl
  have x3 := hX5.at 3 _ rfl
  have x4 := hX5.at 4 _ rfl
  have x5 := hX5.at 5 _ rfl
  have k0 := hk5.at 0 _ rfl
  have k1 := hk5.at 1 _ rfl
  refine (HF.out _ hC5).mono ?_
  rintro e w' ⟨rfl, rfl⟩
  have hadw : (ad.add (i * 3)).block < w.heap.size := lt_of_cell' b0
  have hzw : w.heap.size ≤ w5.heap.size := hB5.size
  have hCl : Kd.C kAMail w5 Ae l.length l := Kd.C_below hC hB5
  have b5 := (hB5.cell (p := ⟨(ad.add (i * 3)).block, (ad.add (i * 3)).off + 2, none⟩) hadw).trans b2
  have hl63 := hC.2.1
  clear b0 b1 k0 k1
  go_wp2_with fail
  go_loopw [10, 11, 12] (fun vK av iv wr => ∃ k : Nat, k ≤ l.length ∧ iv = .int .i64 k ∧ av = .int .i64 (findU u (l.take k) 0) ∧ Kd.R kAMail 84 wr w5.heap.size (fun _ => True) vK ((l.take k).filter keepM) ∧ Below w5.heap.size w5 wr) (fun _ _ iv _ => l.length - (intOf iv).toNat)
  case atStart => exact ⟨0, Nat.zero_le _, rfl, rfl, Kd.R_nil _ _ _ _ _, Below.refl _ _⟩
  case round =>
    obtain ⟨k, hk, rfl, rfl, hK, hBk⟩ := hrel
    obtain ⟨vK, hvK⟩ : ∃ vK, vK = u10 := ⟨_, rfl⟩
    rw [← hvK] at hK ⊢
    clear hvK
    have p0k := (hBk.cell (p := ⟨w.heap.size, 0, none⟩) hz5p).trans p0
    have x0k := (hBk.cell (p := ⟨w.heap.size + 1, 0, none⟩) hz5x).trans x0
    have x2k := (hBk.cell (p := ⟨w.heap.size + 1, 2, none⟩) hz5x).trans x2
    have b2k := (hBk.cell (p := ⟨(ad.add (i * 3)).block, (ad.add (i * 3)).off + 2, none⟩) (by show (ad.add (i * 3)).block < w5.heap.size; omega)).trans b5
    have hzk := hBk.size
    have hpk : w.heap.size < wr.heap.size := by omega
    have hxk : w.heap.size + 1 < wr.heap.size := by omega
    have hak : (ad.add (i * 3)).block < wr.heap.size := by omega
    by_cases hlt : k < l.length
    · obtain ⟨ad2, e2, hx0, hxj⟩ := flat_at (Kd.C_below hCl hBk) k hlt
      subst e2
      have m0 := hx0 _ rfl; have m1 := hxj 1 _ (by decide) rfl; have m2 := hxj 2 _ (by decide) rfl
      clear hx0 hxj
      have hts := Lib.hid (findU_step (u := u) hlt g5)
      have htf := Lib.hid (filter_step keepM hlt)
      have hfx := hfl _ (List.getElem_mem hlt)
      have hlk : ((l.take k).filter keepM).length ≤ k := Nat.le_trans (List.length_filter_le _ _) (List.length_take_le _ _)
      have k0 : (0 : Int) ≤ (k : Int) := by omega
      have k1 : (k : Int) < (l.length : Int) := by omega
      have hkeep : keepM l[k] = decide (l[k].flags / 8 % 2 = 0) := rfl
      generalize l[k] = x at *
      generalize findU u (l.take k) 0 = fu at *
      obtain ⟨A5, c5, rfl⟩ := Kd.R_slice hK
      generalize hkl : (l.take k).filter keepM = kl at *
      have d1 : Int.tdiv x.flags 8 = x.flags / 8 := Int.tdiv_eq_ediv_of_nonneg hfx.1
      have hT := Blk.made wr #[.int .i64 x.uid, .int .i64 x.flags, .string x.text] 84
      have hKa := Kd.R_below hK (show Below wr.heap.size wr (wr.alloc (.cells #[.int .i64 x.uid, .int .i64 x.flags, .string x.text] 84)) from (by repeat (first | exact Below.refl _ _ | apply below_alloc | apply pw_below_drewN | apply below_drew1 | (refine Below.setCell ?_ (by first | (simp; done) | (simp; omega) | omega) _) )))
      have hno : some wr.heap.size ≠ (Value.slice A5 kl.length c5).ownBlock := fun he => by have := Kd.R_lt hK _ he.symm; omega
      by_cases hu : x.uid = u
      · have hub : (x.uid == u) = true := by simp [hu]
        have hfu : findU u (l.take (k + 1)) 0 = (k : Int) := by rw [hts.out, if_pos hu]
        replace hfu := Lib.hid hfu
        clear hu hts
        by_cases hkp : x.flags / 8 % 2 = 0
        · have hkk : (l.take (k + 1)).filter keepM = kl ++ [x] := by rw [htf.out, if_pos (by rw [hkeep]; exact decide_eq_true hkp)]
          replace hkk := Lib.hid hkk
          have hkb : (x.flags / 8 % 2 == 0) = true := by simp [hkp]
          clear hkeep htf hkp
          go_wp2_with (at_builtin; refine snoc_list rowAMail w5.heap.size rfl _ _ rfl (.slice A5 kl.length c5) kl x [.int .i64 x.uid, .int .i64 x.flags, .string x.text] (by first | rfl | (simp [Act.eval]; done)) (by first | rfl | (simp [Act.eval]; done)) rfl hKa (by simp; omega) (by omega) ?_)
          intro v1 w6 hR6 hb6 hg6
          have hT6 := hT.grown hg6 hno
          have y0 := hT6.at 0 _ rfl
          have hz6 := hb6.size
          simp at hz6
          have x2n := (hb6.cell (p := ⟨w.heap.size + 1, 2, none⟩) hz5x).trans (cell_alloc' x2k _)
          have hB6 : Below w5.heap.size w5 w6 := Below.trans (below_alloc hBk _) hb6
          go_wp2_with fail
          go_roundw
          case rel => exact ⟨k + 1, hlt, by go_num, by rw [hfu.out], by rw [hkk.out]; exact hR6, hB6⟩
          case measure => simp [intOf]; omega
        · have hkk : (l.take (k + 1)).filter keepM = kl := by rw [htf.out, if_neg (by rw [hkeep]; simpa using hkp), List.append_nil]
          replace hkk := Lib.hid hkk
          have hkb : (x.flags / 8 % 2 == 0) = false := by simp [hkp]
          clear hkeep htf hkp
          go_wp2_with fail
          go_roundw
          case rel => exact ⟨k + 1, hlt, by go_num, by rw [hfu.out], by rw [hkk.out]; exact hKa, below_alloc hBk _⟩
          case measure => simp [intOf]; omega
      · have hub : (x.uid == u) = false := by simp [hu]
        have hfu : findU u (l.take (k + 1)) 0 = fu := by rw [hts.out, if_neg hu]
        replace hfu := Lib.hid hfu
        clear hu hts
        by_cases hkp : x.flags / 8 % 2 = 0
        · have hkk : (l.take (k + 1)).filter keepM = kl ++ [x] := by rw [htf.out, if_pos (by rw [hkeep]; exact decide_eq_true hkp)]
          replace hkk := Lib.hid hkk
          have hkb : (x.flags / 8 % 2 == 0) = true := by simp [hkp]
          clear hkeep htf hkp
          go_wp2_with (at_builtin; refine snoc_list rowAMail w5.heap.size rfl _ _ rfl (.slice A5 kl.length c5) kl x [.int .i64 x.uid, .int .i64 x.flags, .string x.text] (by first | rfl | (simp [Act.eval]; done)) (by first | rfl | (simp [Act.eval]; done)) rfl hKa (by simp; omega) (by omega) ?_)
          intro v1 w6 hR6 hb6 hg6
          have hT6 := hT.grown hg6 hno
          have y0 := hT6.at 0 _ rfl
          have hz6 := hb6.size
          simp at hz6
          have x2n := (hb6.cell (p := ⟨w.heap.size + 1, 2, none⟩) hz5x).trans (cell_alloc' x2k _)
          have hB6 : Below w5.heap.size w5 w6 := Below.trans (below_alloc hBk _) hb6
          go_wp2_with fail
          go_roundw
          case rel => exact ⟨k + 1, hlt, by go_num, by rw [hfu.out], by rw [hkk.out]; exact hR6, hB6⟩
          case measure => simp [intOf]; omega
        · have hkk : (l.take (k + 1)).filter keepM = kl := by rw [htf.out, if_neg (by rw [hkeep]; simpa using hkp), List.append_nil]
          replace hkk := Lib.hid hkk
          have hkb : (x.flags / 8 % 2 == 0) = false := by simp [hkp]
          clear hkeep htf hkp
          go_wp2_with fail
          go_roundw
          case rel => exact ⟨k + 1, hlt, by go_num, by rw [hfu.out], by rw [hkk.out]; exact hKa, below_alloc hBk _⟩
          case measure => simp [intOf]; omega
    · obtain rfl : k = l.length := by omega
      rw [List.take_length] at hK ⊢
      have k1 : ¬ (l.length : Int) < (l.length : Int) := by omega
      skip
      have hQk := hQ5.below hBk hz5q
      have hBB := hB5.trans (hBk.mono hzw)
      have p1k := (hBk.cell (p := ⟨w.heap.size, 1, none⟩) hz5p).trans p1
      have x1k := (hBk.cell (p := ⟨w.heap.size + 1, 1, none⟩) hz5x).trans x1
      have x3k := (hBk.cell (p := ⟨w.heap.size + 1, 3, none⟩) hz5x).trans x3
      have x4k := (hBk.cell (p := ⟨w.heap.size + 1, 4, none⟩) hz5x).trans x4
      have hlz := hQk.lt
      rw [hfk.out]
      obtain ⟨ad2, e2, hx0, hxj⟩ := flat_at (Kd.C_below hCl hBk) j hj
      subst e2
      rw [hmm.out] at hx0 hxj
      have m0 := hx0 _ rfl; have m1 := hxj 1 _ (by decide) rfl; have m2 := hxj 2 _ (by decide) rfl
      clear hx0 hxj
      obtain ⟨g, cap, hAc, hgb, hgl, cells, hgc⟩ := Kd.S_form hS5 (by omega)
      injection hAc with hAc1 _ hAc2
      subst hAc1
      subst hAc2
      obtain ⟨oki, vM, y0, y1, y2, f1, f2, hR, hoki, hH⟩ := box_lend hS5 hi hb
      obtain ⟨Am, cm, rfl⟩ := Kd.R_slice hR
      have hng : g ≠ pb := fun he => (Kd.S_R hS5).1 g (by simp [Value.ownBlock]) he
      have hng2 : pb ≠ g := Ne.symm hng
      have ea : (⟨g, 0, none⟩ : Addr).add (i * 3) = ⟨g, i * 3, none⟩ := add_plain _ _
      have hgo : some g ≠ (Value.slice Am l.length cm).ownBlock := fun he => (hoki g (hR.1 g he.symm)).2 rfl
      have hpo : some pb ≠ (Value.slice Am l.length cm).ownBlock := fun he => (hoki pb (hR.1 pb he.symm)).1 rfl
      have k0k := (hBk.cell (p := ⟨pb, 0, none⟩) hz5k).trans (hk5.at 0 _ rfl)
      have k1k := (hBk.cell (p := ⟨pb, 1, none⟩) hz5k).trans (hk5.at 1 _ rfl)
      have y2k := (hBk.cell (p := ⟨g, i * 3 + 2, none⟩) hgl).trans y2
      have f2k := (hBk.frozen (p := ⟨g, i * 3 + 2, none⟩) hgl).trans f2
      have hkk := hk5.below hBk hz5k
      have hQk := hQ5.below hBk hz5q
      have hXk := hX5.below hBk hz5x
      have hEk := Kd.R_below hE5 hBk
      have hBB := hB5.trans (hBk.mono hzw)
      obtain ⟨gm, cm', hAm, hmb, hml, mc, hmt⟩ := Kd.R_form hR (by omega)
      injection hAm with hAm1 _ hAm2
      subst hAm1
      subst hAm2
      have hRk := Kd.R_below hR hBk
      have hHk := Kd.H_below hH hBk
      have n1 : pb ≠ gm := fun he => hpo (by rw [he]; rfl)
      have n2 : g ≠ gm := fun he => hgo (by rw [he]; rfl)
      have n3 : w.heap.size + 1 ≠ gm := by omega
      have n4 : w.heap.size + 1 + 1 ≠ gm := by omega
      have e2 : (⟨gm, 0, none⟩ : Addr).add (j * 3) = ⟨gm, j * 3, none⟩ := add_plain _ _
      obtain ⟨Wn, hWm⟩ : ∃ Wn : World, Wn = wr.alloc (.cells #[.int .i64 mm.uid, .int .i64 mm.flags, .string mm.text] 84) := ⟨_, rfl⟩
      have hbm : Below wr.heap.size wr Wn.drew := by rw [hWm]; exact (by repeat (first | exact Below.refl _ _ | apply below_alloc | apply pw_below_drewN | apply below_drew1 | (refine Below.setCell ?_ (by first | (simp; done) | (simp; omega) | omega) _) ))
      have z0 : Wn.drew.cell? ⟨pb, 0, none⟩ = some (.slice (some ⟨g, 0, none⟩) bs.length cb) := (hkk.below hbm hkk.lt).at 0 _ rfl
      have z1 : Wn.drew.cell? ⟨pb, 1, none⟩ = some (.slice As es.length cs) := (hkk.below hbm hkk.lt).at 1 _ rfl
      have z2 := (hbm.cell (p := ⟨g, i * 3 + 2, none⟩) (show g < wr.heap.size from Nat.lt_of_lt_of_le hgl hBk.size)).trans y2k
      have z3 := (hXk.below hbm hXk.lt).at 3 _ rfl
      have hRm := Kd.R_below hRk hbm
      obtain ⟨_, hcapm, _⟩ := Kd.R_reads' hRm
      obtain ⟨⟨uo, zo⟩, zf⟩ := row_cells hRm (j * 3 + 1) (by omega)
      have hgr : Wn.drew.grownBy (Wn.drew.setCell ⟨gm, j * 3 + 1, none⟩ (.int .i64 f)) (some gm) := grown_set (World.grownBy.refl _ _) _ _
      have hS7 := box_back (Kd.H_grown (Kd.H_below hHk hbm) hgr (fun k hk => by obtain rfl := Option.some.inj hk; exact hR.1 _ rfl)) (row_flag hRm hj hmm.out f)
      have hmt7 : Wn.drew.heap[gm]? = some (.cells mc 84 (0, 0)) := (hbm.block gm (Nat.lt_of_lt_of_le hml hBk.size)).trans ((hBk.block gm hml).trans hmt)
      have hR7 := Kd.R_mono (Kd.R_far (p := ⟨gm, j * 3 + 1, none⟩) (Kd.R_types (Kd.R_below hEk hbm) hmt7 (by decide)) (fun k hk => hk.2) (.int .i64 f)) (fun k hk => hk.1)
      have hQ7 := (hQk.below hbm hQk.lt).other (c := gm) (j := j * 3 + 1) (Ne.symm n4) (.int .i64 f)
      have hlz7 := hQ7.lt
      have z0' := cell_other' z0 (c := gm) (j := j * 3 + 1) n1 (.int .i64 f)
      have z1' := cell_other' z1 (c := gm) (j := j * 3 + 1) n1 (.int .i64 f)
      have z2' := cell_other' z2 (c := gm) (j := j * 3 + 1) n2 (.int .i64 f)
      have z3' := cell_other' z3 (c := gm) (j := j * 3 + 1) n3 (.int .i64 f)
      have hBm : Below w.heap.size w (Wn.drew.setCell ⟨gm, j * 3 + 1, none⟩ (.int .i64 f)) := Below.setCell (hBB.trans (hbm.mono (by omega))) (show w.heap.size ≤ gm by omega) _
      have hlzm : w.heap.size + 1 + 1 < Wn.drew.heap.size := by have := hbm.size; omega
      have jj0 : (0 : Int) ≤ (j : Int) := by omega
      have jj1 : ¬ (j : Int) < 0 := by omega
      have jj2 : (j : Int) < (l.length : Int) := by omega
      replace hWm := Lib.hid hWm
      clear hR hH hS5 hE5 hRk hHk hEk hmt7 hmt hgr hRm hgc
      go_wp2_with fail
      rw [← hWm.out]
      go_region_held3 (fun w' => w'.cell? ⟨pb, 0, none⟩ = some (.slice (some ⟨g, 0, none⟩) bs.length cb) ∧ w'.cell? ⟨g, i * 3 + 2, none⟩ = some (.slice (some ⟨gm, 0, none⟩) l.length cm) ∧ w'.cell? ⟨w.heap.size + 1, 3, none⟩ = some (.int .i64 f))
        (first | exact ⟨z0, z2, z3⟩ | exact ⟨z0', z2', z3'⟩ | go_keep) (fail)
      have hdr : Wn.drew.setCell ⟨gm, j * 3 + 1, none⟩ (.int .i64 f) = (Wn.setCell ⟨gm, j * 3 + 1, none⟩ (.int .i64 f)).drew := rfl
      rw [hdr] at hS7 hR7 hQ7 hBm z0' z1' hlz7
      generalize (Wn.setCell ⟨gm, j * 3 + 1, none⟩ (.int .i64 f)).drew = W7 at *
      clear hdr z2' z3'
      obtain ⟨hn1, hn2, hn3, hCo⟩ := own_out (Z := Z) hS7 hR7 (fun k hk => by have := hZ k hk; omega)
      have q0 := (hQ7).at 0 _ rfl
      have q1 := (hQ7).at 1 _ rfl
      have q2 := (hQ7).free 0 _ rfl
      have q3 := (hQ7).free 1 _ rfl
      replace hn1 := Lib.hid hn1
      replace hn3 := Lib.hid hn3
      go_wp2_with fail
      refine bodyPost_ret (v := .tuple #[.agg #[.slice ((some ⟨g, 0, none⟩)) (bs.length) cb, .slice (As) (es.length) cs], .int .i64 0]) (by simp [results, Tryd.results57, go_sem, *]) rfl ?_
      exact ⟨(some ⟨g, 0, none⟩), cb, As, cs, by simp, by first | exact hn2 | (rw [← hn1.out]; exact hn2) | (simp; omega), hCo _ (by omega) _ _, (by repeat (first | exact Below.refl _ _ | apply below_alloc | apply pw_below_drewN | apply below_drew1 | (refine Below.setCell ?_ (by first | (simp; done) | (simp; omega) | omega) _) | exact hBm))⟩
end Go.Proofs.YtijdghplfhfpaaaDoor.H

/- Boxes: the reference's entered: Copy; the whole. -/
namespace Go.Proofs.YtijdghplfhfpaaaDoor.H
open Go.RowKit Go.Proofs.YtijdghplfhfpaaaDoorW.PrintWords Go.Proofs.YtijdghplfhfpaaaDoorW.PrintLast Go.Proofs.YtijdghplfhfpaaaDoor.U
set_option linter.unusedVariables false
set_option linter.unusedSimpArgs false
set_option maxHeartbeats 2000000 in
set_option maxRecDepth 100000 in
theorem entered_copy (Z : Nat → Prop) (i j : Nat) (bx : ByteArray) (u f : Int) (to_ tx : ByteArray) (A : Option Addr) (c : Nat) (bs : List ABox) (A2 : Option Addr) (c2 : Nat) (es : List AEntry) (w : World) (hrd : Rd Z w A bs A2 es) (hZ : ∀ k, Z k → k < w.heap.size) (hc : bs.length ≤ c) (hinv : InvS bs es) (hfi : findG bx bs 0 = (i : Int)) (hi : i < bs.length) (hfk : findU u (mailsAt bs i) 0 = (j : Int)) (hj : j < (mailsAt bs i).length) (hneg : findG to_ bs 0 < 0) :
    Calls Tryd.prog 57 #[.agg #[.slice A bs.length c, .slice A2 es.length c2], .agg #[.int .i64 5, .string bx, .int .i64 u, .int .i64 f, .string to_, .string tx]] w (PostSt Z w (entV bs es ⟨5, bx, u, f, to_, tx⟩)) := by
  skip
  obtain ⟨hr, hr2⟩ := hrd.now
  obtain ⟨nm, nx, l, hb⟩ : ∃ nm nx l, bs[i] = (nm, nx, l) := ⟨_, _, _, rfl⟩
  have hgd : GoodB (nm, nx, l) := by rw [← hb]; exact hinv.2.2 _ (List.getElem_mem hi)
  obtain ⟨g1, g2, g3, g4, g5⟩ := hgd
  simp only at g1 g2 g3 g4 g5
  have hfl : ∀ m ∈ l, 0 ≤ m.flags ∧ m.flags ≤ 31 := fun m hm => by obtain ⟨_, _, a, b, _⟩ := mails_mem _ _ g5 m hm; exact ⟨a, b⟩
  have i0 : (0 : Int) ≤ (i : Int) := by omega
  have i1 : ¬ (i : Int) < 0 := by omega
  have i2 : (i : Int) < (bs.length : Int) := by omega
  obtain ⟨ad, Ae, ce, e1, b0, b1, b2, hC⟩ := box_at hr i hi
  subst e1
  rw [add1] at b1
  rw [add2] at b2
  rw [hb] at b0 b1 b2 hC
  simp only at b0 b1 b2 hC
  rw [mailsAt_of hi hb] at hfk hj
  obtain ⟨mm, hmm⟩ : ∃ mm, l[j] = mm := ⟨_, rfl⟩
  have hcv : ∀ z, copyV bs l j z = if z < 0 then (7, bs) else addV bs z.toNat mm.flags mm.text := fun z => by
    unfold copyV
    rw [List.getElem?_eq_getElem hj, hmm]
  have hmv : mailV bs i ⟨5, bx, u, f, to_, tx⟩ = copyV bs l j (findG to_ bs 0) := by
    rw [mailV, if_neg (by show ¬ ((5 : Int) = 2); decide), if_neg (by show ¬ ((5 : Int) = 4); decide), mailsAt_of hi hb]
    simp only [hfk]
    rw [if_neg (by omega), if_neg (by decide), Int.toNat_natCast]
  rw [entV_mail (x := ⟨5, bx, u, f, to_, tx⟩) (by show ¬ ((5 : Int) = 6); decide) (by show ¬ ((5 : Int) = 1); decide) hfi, hmv, hcv]
  have hmt := mails_mem _ _ g5 mm (hmm ▸ List.getElem_mem hj)
  replace hmm := Lib.hid hmm
  clear hmv hcv
  replace hfk := Lib.hid hfk
  have HF2 := fun W hr => boxOf_calls (some ad) c bs to_ W hr
  rw [if_pos hneg]
  generalize findG to_ bs 0 = z2 at *
  replace HF2 := Lib.hid HF2
  obtain ⟨W3, hW3⟩ : ∃ W3 : World, W3 = ((w.alloc (.cells #[.slice (some ad) bs.length c, .slice A2 es.length c2] 25)).alloc (.cells #[.int .i64 5, .string bx, .int .i64 u, .int .i64 f, .string to_, .string tx] 40)).alloc (.cells #[.slice none 0 0, .slice none 0 0] 25) := ⟨_, rfl⟩
  have hP0 : Blk W3 w.heap.size [.slice (some ad) bs.length c, .slice A2 es.length c2] := by rw [hW3]; exact ((Blk.made w _ _).alloc _).alloc _
  have hX0 : Blk W3 (w.heap.size + 1) [.int .i64 5, .string bx, .int .i64 u, .int .i64 f, .string to_, .string tx] := by rw [hW3]; exact (Blk.made_at _ _ _ (by simp)).alloc _
  have hQ0 : Blk W3 (w.heap.size + 1 + 1) [.slice none 0 0, .slice none 0 0] := by rw [hW3]; exact Blk.made_at _ _ _ (by simp)
  have hB0 : Below w.heap.size w W3 := by rw [hW3]; exact (by repeat (first | exact Below.refl _ _ | apply below_alloc | apply pw_below_drewN | apply below_drew1 | (refine Below.setCell ?_ (by first | (simp; done) | (simp; omega) | omega) _) ))
  have hz0 : W3.heap.size = w.heap.size + 1 + 1 + 1 := by rw [hW3]; simp
  replace hW3 := Lib.hid hW3
  have hi1 := hinv.1
  have hi2 := hinv.2.1
  have hb30 : ∀ b ∈ bs, b.2.2.length ≤ 1048576 := fun b hb => by have := (hinv.2.2 b hb).2.2.2.1; omega
  have HSC := Lib.hid (stateCopy_calls (some ad) c bs A2 c2 es W3 (Kd.C_below hr hB0) (Kd.C_below hr2 hB0) (by omega) (by omega) hb30)
  have HF := fun W hr => boxOf_calls (some ad) c bs bx W hr
  simp only [hfi] at HF
  replace HF := Lib.hid HF
  clear hfi
  go_enter Tryd.func57, Tryd.ntmps57
  go_wp2_with fail
  rw [← hW3.out]
  refine HSC.out.mono ?_
  rintro e w3 ⟨vB, vS, rfl, hS3, hE3, hb3⟩
  obtain ⟨Ab, cb, rfl⟩ := Kd.S_slice hS3
  obtain ⟨As, cs, rfl⟩ := Kd.R_slice hE3
  have hz3 := hb3.size
  obtain ⟨pb, hpbe⟩ : ∃ pb, pb = w3.heap.size := ⟨_, rfl⟩
  obtain ⟨base, hbe⟩ : ∃ base, base = W3.heap.size := ⟨_, rfl⟩
  obtain ⟨w5, hW5⟩ : ∃ w5 : World, w5 = w3.alloc (.cells #[.slice Ab bs.length cb, .slice As es.length cs] 25) := ⟨_, rfl⟩
  have hP5 : Blk w5 w.heap.size [.slice (some ad) bs.length c, .slice A2 es.length c2] := by rw [hW5]; exact (hP0.below hb3 (by omega)).alloc _
  have hX5 : Blk w5 (w.heap.size + 1) [.int .i64 5, .string bx, .int .i64 u, .int .i64 f, .string to_, .string tx] := by rw [hW5]; exact (hX0.below hb3 (by omega)).alloc _
  have hQ5 : Blk w5 (w.heap.size + 1 + 1) [.slice none 0 0, .slice none 0 0] := by rw [hW5]; exact (hQ0.below hb3 (by omega)).alloc _
  have hk5 : Blk w5 pb [.slice Ab bs.length cb, .slice As es.length cs] := by rw [hW5, hpbe]; exact Blk.made _ _ _
  have hB5 : Below w.heap.size w w5 := by rw [hW5]; exact below_alloc' (hB0.trans (hb3.mono (by omega))) (by omega) _
  have hS5 : Kd.S kBox 77 w5 base (fun k => k ≠ pb) (.slice Ab bs.length cb) bs := by rw [hW5, hbe, hpbe]; exact Kd.S_mono (Kd.S_below (Kd.S_bound hS3) (by repeat (first | exact Below.refl _ _ | apply below_alloc | apply pw_below_drewN | apply below_drew1 | (refine Below.setCell ?_ (by first | (simp; done) | (simp; omega) | omega) _) ))) (fun k hk => by have := hk.2.2.1; show k ≠ _; omega)
  have hE5 : Kd.R kAEntry 40 w5 base (fun k => k ≠ pb) (.slice As es.length cs) es := by rw [hW5, hbe, hpbe]; exact Kd.R_mono (Kd.R_below (Kd.R_bound hE3) (by repeat (first | exact Below.refl _ _ | apply below_alloc | apply pw_below_drewN | apply below_drew1 | (refine Below.setCell ?_ (by first | (simp; done) | (simp; omega) | omega) _) ))) (fun k hk => by have := hk.2.2.1; show k ≠ _; omega)
  have hp : base ≤ pb := by omega
  have hbw : w.heap.size + 1 + 1 < base := by omega
  have hC5 := Kd.C_below hr hB5
  have hz5k := hk5.lt
  have hz5p := hP5.lt
  have hz5x := hX5.lt
  have hz5q := hQ5.lt
  have p0 := (hP0.below hb3 (by omega)).at 0 _ rfl
  have x1 := (hX0.below hb3 (by omega)).at 1 _ rfl
  have hlt1 : w.heap.size < w3.heap.size := by omega
  have hlt2 : w.heap.size + 1 < w3.heap.size := by omega
  replace hW5 := Lib.hid hW5
  replace hpbe := Lib.hid hpbe
  clear hP0 hX0 hQ0 hB0 hb3 hS3 hE3 hbe hz0 hz3 hW3 HSC
  go_wp2_with fail
  rw [← hW5.out, ← hpbe.out]
  clear p0 x1 hlt1 hlt2
  have p0 := hP5.at 0 _ rfl
  have p1 := hP5.at 1 _ rfl
  have x0 := hX5.at 0 _ rfl
  have x1 := hX5.at 1 _ rfl
  have x2 := hX5.at 2 _ rfl
  have x3 := hX5.at 3 _ rfl
  have x4 := hX5.at 4 _ rfl
  have x5 := hX5.at 5 _ rfl
  have k0 := hk5.at 0 _ rfl
  have k1 := hk5.at 1 _ rfl
  refine (HF.out _ hC5).mono ?_
  rintro e w' ⟨rfl, rfl⟩
  have hadw : (ad.add (i * 3)).block < w.heap.size := lt_of_cell' b0
  have hzw : w.heap.size ≤ w5.heap.size := hB5.size
  have hCl : Kd.C kAMail w5 Ae l.length l := Kd.C_below hC hB5
  have b5 := (hB5.cell (p := ⟨(ad.add (i * 3)).block, (ad.add (i * 3)).off + 2, none⟩) hadw).trans b2
  have hl63 := hC.2.1
  clear b0 b1 k0 k1
  go_wp2_with fail
  go_loopw [10, 11, 12] (fun vK av iv wr => ∃ k : Nat, k ≤ l.length ∧ iv = .int .i64 k ∧ av = .int .i64 (findU u (l.take k) 0) ∧ Kd.R kAMail 84 wr w5.heap.size (fun _ => True) vK ((l.take k).filter keepM) ∧ Below w5.heap.size w5 wr) (fun _ _ iv _ => l.length - (intOf iv).toNat)
  case atStart => exact ⟨0, Nat.zero_le _, rfl, rfl, Kd.R_nil _ _ _ _ _, Below.refl _ _⟩
  case round =>
    obtain ⟨k, hk, rfl, rfl, hK, hBk⟩ := hrel
    obtain ⟨vK, hvK⟩ : ∃ vK, vK = u10 := ⟨_, rfl⟩
    rw [← hvK] at hK ⊢
    clear hvK
    have p0k := (hBk.cell (p := ⟨w.heap.size, 0, none⟩) hz5p).trans p0
    have x0k := (hBk.cell (p := ⟨w.heap.size + 1, 0, none⟩) hz5x).trans x0
    have x2k := (hBk.cell (p := ⟨w.heap.size + 1, 2, none⟩) hz5x).trans x2
    have b2k := (hBk.cell (p := ⟨(ad.add (i * 3)).block, (ad.add (i * 3)).off + 2, none⟩) (by show (ad.add (i * 3)).block < w5.heap.size; omega)).trans b5
    have hzk := hBk.size
    have hpk : w.heap.size < wr.heap.size := by omega
    have hxk : w.heap.size + 1 < wr.heap.size := by omega
    have hak : (ad.add (i * 3)).block < wr.heap.size := by omega
    by_cases hlt : k < l.length
    · obtain ⟨ad2, e2, hx0, hxj⟩ := flat_at (Kd.C_below hCl hBk) k hlt
      subst e2
      have m0 := hx0 _ rfl; have m1 := hxj 1 _ (by decide) rfl; have m2 := hxj 2 _ (by decide) rfl
      clear hx0 hxj
      have hts := Lib.hid (findU_step (u := u) hlt g5)
      have htf := Lib.hid (filter_step keepM hlt)
      have hfx := hfl _ (List.getElem_mem hlt)
      have hlk : ((l.take k).filter keepM).length ≤ k := Nat.le_trans (List.length_filter_le _ _) (List.length_take_le _ _)
      have k0 : (0 : Int) ≤ (k : Int) := by omega
      have k1 : (k : Int) < (l.length : Int) := by omega
      have hkeep : keepM l[k] = decide (l[k].flags / 8 % 2 = 0) := rfl
      generalize l[k] = x at *
      generalize findU u (l.take k) 0 = fu at *
      obtain ⟨A5, c5, rfl⟩ := Kd.R_slice hK
      generalize hkl : (l.take k).filter keepM = kl at *
      have d1 : Int.tdiv x.flags 8 = x.flags / 8 := Int.tdiv_eq_ediv_of_nonneg hfx.1
      have hT := Blk.made wr #[.int .i64 x.uid, .int .i64 x.flags, .string x.text] 84
      have hKa := Kd.R_below hK (show Below wr.heap.size wr (wr.alloc (.cells #[.int .i64 x.uid, .int .i64 x.flags, .string x.text] 84)) from (by repeat (first | exact Below.refl _ _ | apply below_alloc | apply pw_below_drewN | apply below_drew1 | (refine Below.setCell ?_ (by first | (simp; done) | (simp; omega) | omega) _) )))
      have hno : some wr.heap.size ≠ (Value.slice A5 kl.length c5).ownBlock := fun he => by have := Kd.R_lt hK _ he.symm; omega
      by_cases hu : x.uid = u
      · have hub : (x.uid == u) = true := by simp [hu]
        have hfu : findU u (l.take (k + 1)) 0 = (k : Int) := by rw [hts.out, if_pos hu]
        replace hfu := Lib.hid hfu
        clear hu hts
        by_cases hkp : x.flags / 8 % 2 = 0
        · have hkk : (l.take (k + 1)).filter keepM = kl ++ [x] := by rw [htf.out, if_pos (by rw [hkeep]; exact decide_eq_true hkp)]
          replace hkk := Lib.hid hkk
          have hkb : (x.flags / 8 % 2 == 0) = true := by simp [hkp]
          clear hkeep htf hkp
          go_wp2_with (at_builtin; refine snoc_list rowAMail w5.heap.size rfl _ _ rfl (.slice A5 kl.length c5) kl x [.int .i64 x.uid, .int .i64 x.flags, .string x.text] (by first | rfl | (simp [Act.eval]; done)) (by first | rfl | (simp [Act.eval]; done)) rfl hKa (by simp; omega) (by omega) ?_)
          intro v1 w6 hR6 hb6 hg6
          have hT6 := hT.grown hg6 hno
          have y0 := hT6.at 0 _ rfl
          have hz6 := hb6.size
          simp at hz6
          have x2n := (hb6.cell (p := ⟨w.heap.size + 1, 2, none⟩) hz5x).trans (cell_alloc' x2k _)
          have hB6 : Below w5.heap.size w5 w6 := Below.trans (below_alloc hBk _) hb6
          go_wp2_with fail
          go_roundw
          case rel => exact ⟨k + 1, hlt, by go_num, by rw [hfu.out], by rw [hkk.out]; exact hR6, hB6⟩
          case measure => simp [intOf]; omega
        · have hkk : (l.take (k + 1)).filter keepM = kl := by rw [htf.out, if_neg (by rw [hkeep]; simpa using hkp), List.append_nil]
          replace hkk := Lib.hid hkk
          have hkb : (x.flags / 8 % 2 == 0) = false := by simp [hkp]
          clear hkeep htf hkp
          go_wp2_with fail
          go_roundw
          case rel => exact ⟨k + 1, hlt, by go_num, by rw [hfu.out], by rw [hkk.out]; exact hKa, below_alloc hBk _⟩
          case measure => simp [intOf]; omega
      · have hub : (x.uid == u) = false := by simp [hu]
        have hfu : findU u (l.take (k + 1)) 0 = fu := by rw [hts.out, if_neg hu]
        replace hfu := Lib.hid hfu
        clear hu hts
        by_cases hkp : x.flags / 8 % 2 = 0
        · have hkk : (l.take (k + 1)).filter keepM = kl ++ [x] := by rw [htf.out, if_pos (by rw [hkeep]; exact decide_eq_true hkp)]
          replace hkk := Lib.hid hkk
          have hkb : (x.flags / 8 % 2 == 0) = true := by simp [hkp]
          clear hkeep htf hkp
          go_wp2_with (at_builtin; refine snoc_list rowAMail w5.heap.size rfl _ _ rfl (.slice A5 kl.length c5) kl x [.int .i64 x.uid, .int .i64 x.flags, .string x.text] (by first | rfl | (simp [Act.eval]; done)) (by first | rfl | (simp [Act.eval]; done)) rfl hKa (by simp; omega) (by omega) ?_)
          intro v1 w6 hR6 hb6 hg6
          have hT6 := hT.grown hg6 hno
          have y0 := hT6.at 0 _ rfl
          have hz6 := hb6.size
          simp at hz6
          have x2n := (hb6.cell (p := ⟨w.heap.size + 1, 2, none⟩) hz5x).trans (cell_alloc' x2k _)
          have hB6 : Below w5.heap.size w5 w6 := Below.trans (below_alloc hBk _) hb6
          go_wp2_with fail
          go_roundw
          case rel => exact ⟨k + 1, hlt, by go_num, by rw [hfu.out], by rw [hkk.out]; exact hR6, hB6⟩
          case measure => simp [intOf]; omega
        · have hkk : (l.take (k + 1)).filter keepM = kl := by rw [htf.out, if_neg (by rw [hkeep]; simpa using hkp), List.append_nil]
          replace hkk := Lib.hid hkk
          have hkb : (x.flags / 8 % 2 == 0) = false := by simp [hkp]
          clear hkeep htf hkp
          go_wp2_with fail
          go_roundw
          case rel => exact ⟨k + 1, hlt, by go_num, by rw [hfu.out], by rw [hkk.out]; exact hKa, below_alloc hBk _⟩
          case measure => simp [intOf]; omega
    · obtain rfl : k = l.length := by omega
      rw [List.take_length] at hK ⊢
      have k1 : ¬ (l.length : Int) < (l.length : Int) := by omega
      skip
      skip
      have hQk := hQ5.below hBk hz5q
      have hBB := hB5.trans (hBk.mono hzw)
      have p1k := (hBk.cell (p := ⟨w.heap.size, 1, none⟩) hz5p).trans p1
      have x1k := (hBk.cell (p := ⟨w.heap.size + 1, 1, none⟩) hz5x).trans x1
      have x3k := (hBk.cell (p := ⟨w.heap.size + 1, 3, none⟩) hz5x).trans x3
      have x4k := (hBk.cell (p := ⟨w.heap.size + 1, 4, none⟩) hz5x).trans x4
      have hlz := hQk.lt
      rw [hfk.out]
      obtain ⟨ad2, e2, hx0, hxj⟩ := flat_at (Kd.C_below hCl hBk) j hj
      subst e2
      rw [hmm.out] at hx0 hxj
      have m0 := hx0 _ rfl; have m1 := hxj 1 _ (by decide) rfl; have m2 := hxj 2 _ (by decide) rfl
      clear hx0 hxj
      obtain ⟨Wn, hWn⟩ : ∃ Wn : World, Wn = wr.alloc (.cells #[.int .i64 mm.uid, .int .i64 mm.flags, .string mm.text] 84) := ⟨_, rfl⟩
      have hbn : Below wr.heap.size wr Wn := by rw [hWn]; exact (by repeat (first | exact Below.refl _ _ | apply below_alloc | apply pw_below_drewN | apply below_drew1 | (refine Below.setCell ?_ (by first | (simp; done) | (simp; omega) | omega) _) ))
      have hTn : Blk Wn wr.heap.size [.int .i64 mm.uid, .int .i64 mm.flags, .string mm.text] := by rw [hWn]; exact Blk.made _ _ _
      have hQn := hQk.below hbn hQk.lt
      have hBn := hBB.trans (hbn.mono (by omega))
      have hCn := Kd.C_below hr hBn
      have t1 := hTn.at 1 _ rfl
      have t2 := hTn.at 2 _ rfl
      have p0n := (hbn.cell (p := ⟨w.heap.size, 0, none⟩) (show w.heap.size < wr.heap.size by omega)).trans ((hBk.cell (p := ⟨w.heap.size, 0, none⟩) hz5p).trans p0)
      have p1n := (hbn.cell (p := ⟨w.heap.size, 1, none⟩) (show w.heap.size < wr.heap.size by omega)).trans p1k
      have jj0 : (0 : Int) ≤ (j : Int) := by omega
      have jj1 : ¬ (j : Int) < 0 := by omega
      have jj2 : (j : Int) < (l.length : Int) := by omega
      have hlzn := hQn.lt
      replace hWn := Lib.hid hWn
      go_wp2_with fail
      rw [← hWn.out]
      refine (HF2.out _ hCn).mono ?_
      rintro e w' ⟨rfl, rfl⟩
      clear m0 m1 m2 x0k x1k x2k x3k x4k b2k p0k p1k hpk hxk hak
      have q0 := hQn.at 0 _ rfl
      have q1 := hQn.at 1 _ rfl
      have q2 := hQn.free 0 _ rfl
      have q3 := hQn.free 1 _ rfl
      go_wp2_with fail
      refine bodyPost_ret (v := .tuple #[.agg #[.slice (some ad) bs.length c, .slice A2 es.length c2], .int .i64 7]) (by simp [results, Tryd.results57, go_sem, *]) rfl ?_
      exact ⟨some ad, c, A2, c2, rfl, hc, hrd.below (by repeat (first | exact Below.refl _ _ | apply below_alloc | apply pw_below_drewN | apply below_drew1 | (refine Below.setCell ?_ (by first | (simp; done) | (simp; omega) | omega) _) | exact hBn)), (by repeat (first | exact Below.refl _ _ | apply below_alloc | apply pw_below_drewN | apply below_drew1 | (refine Below.setCell ?_ (by first | (simp; done) | (simp; omega) | omega) _) | exact hBn))⟩
set_option maxHeartbeats 2000000 in
set_option maxRecDepth 100000 in
theorem entered_copied (Z : Nat → Prop) (i j t : Nat) (bx : ByteArray) (u f : Int) (to_ tx : ByteArray) (A : Option Addr) (c : Nat) (bs : List ABox) (A2 : Option Addr) (c2 : Nat) (es : List AEntry) (w : World) (hrd : Rd Z w A bs A2 es) (hZ : ∀ k, Z k → k < w.heap.size) (hc : bs.length ≤ c) (hinv : InvS bs es) (hfi : findG bx bs 0 = (i : Int)) (hi : i < bs.length) (hfk : findU u (mailsAt bs i) 0 = (j : Int)) (hj : j < (mailsAt bs i).length) (ht : findG to_ bs 0 = (t : Int)) (htl : t < bs.length) :
    Calls Tryd.prog 57 #[.agg #[.slice A bs.length c, .slice A2 es.length c2], .agg #[.int .i64 5, .string bx, .int .i64 u, .int .i64 f, .string to_, .string tx]] w (PostSt Z w (entV bs es ⟨5, bx, u, f, to_, tx⟩)) := by
  skip
  obtain ⟨hr, hr2⟩ := hrd.now
  obtain ⟨nm, nx, l, hb⟩ : ∃ nm nx l, bs[i] = (nm, nx, l) := ⟨_, _, _, rfl⟩
  have hgd : GoodB (nm, nx, l) := by rw [← hb]; exact hinv.2.2 _ (List.getElem_mem hi)
  obtain ⟨g1, g2, g3, g4, g5⟩ := hgd
  simp only at g1 g2 g3 g4 g5
  have hfl : ∀ m ∈ l, 0 ≤ m.flags ∧ m.flags ≤ 31 := fun m hm => by obtain ⟨_, _, a, b, _⟩ := mails_mem _ _ g5 m hm; exact ⟨a, b⟩
  have i0 : (0 : Int) ≤ (i : Int) := by omega
  have i1 : ¬ (i : Int) < 0 := by omega
  have i2 : (i : Int) < (bs.length : Int) := by omega
  obtain ⟨ad, Ae, ce, e1, b0, b1, b2, hC⟩ := box_at hr i hi
  subst e1
  rw [add1] at b1
  rw [add2] at b2
  rw [hb] at b0 b1 b2 hC
  simp only at b0 b1 b2 hC
  rw [mailsAt_of hi hb] at hfk hj
  obtain ⟨mm, hmm⟩ : ∃ mm, l[j] = mm := ⟨_, rfl⟩
  have hcv : ∀ z, copyV bs l j z = if z < 0 then (7, bs) else addV bs z.toNat mm.flags mm.text := fun z => by
    unfold copyV
    rw [List.getElem?_eq_getElem hj, hmm]
  have hmv : mailV bs i ⟨5, bx, u, f, to_, tx⟩ = copyV bs l j (findG to_ bs 0) := by
    rw [mailV, if_neg (by show ¬ ((5 : Int) = 2); decide), if_neg (by show ¬ ((5 : Int) = 4); decide), mailsAt_of hi hb]
    simp only [hfk]
    rw [if_neg (by omega), if_neg (by decide), Int.toNat_natCast]
  rw [entV_mail (x := ⟨5, bx, u, f, to_, tx⟩) (by show ¬ ((5 : Int) = 6); decide) (by show ¬ ((5 : Int) = 1); decide) hfi, hmv, hcv]
  have hmt := mails_mem _ _ g5 mm (hmm ▸ List.getElem_mem hj)
  replace hmm := Lib.hid hmm
  clear hmv hcv
  replace hfk := Lib.hid hfk
  have HF2 := fun W hr => boxOf_calls (some ad) c bs to_ W hr
  rw [ht] at HF2 ⊢
  rw [if_neg (by omega), Int.toNat_natCast]
  have HP := fun Z W h1 h2 => put_calls Z t mm.flags mm.text (some ad) c bs A2 c2 es W h1 h2 hc hinv htl hmt.2.2.2.2
  generalize addV bs t mm.flags mm.text = R at *
  obtain ⟨rf, rb⟩ := R
  replace HP := Lib.hid HP
  replace HF2 := Lib.hid HF2
  have tt1 : ¬ (t : Int) < 0 := by omega
  clear ht hmt
  obtain ⟨W3, hW3⟩ : ∃ W3 : World, W3 = ((w.alloc (.cells #[.slice (some ad) bs.length c, .slice A2 es.length c2] 25)).alloc (.cells #[.int .i64 5, .string bx, .int .i64 u, .int .i64 f, .string to_, .string tx] 40)).alloc (.cells #[.slice none 0 0, .slice none 0 0] 25) := ⟨_, rfl⟩
  have hP0 : Blk W3 w.heap.size [.slice (some ad) bs.length c, .slice A2 es.length c2] := by rw [hW3]; exact ((Blk.made w _ _).alloc _).alloc _
  have hX0 : Blk W3 (w.heap.size + 1) [.int .i64 5, .string bx, .int .i64 u, .int .i64 f, .string to_, .string tx] := by rw [hW3]; exact (Blk.made_at _ _ _ (by simp)).alloc _
  have hQ0 : Blk W3 (w.heap.size + 1 + 1) [.slice none 0 0, .slice none 0 0] := by rw [hW3]; exact Blk.made_at _ _ _ (by simp)
  have hB0 : Below w.heap.size w W3 := by rw [hW3]; exact (by repeat (first | exact Below.refl _ _ | apply below_alloc | apply pw_below_drewN | apply below_drew1 | (refine Below.setCell ?_ (by first | (simp; done) | (simp; omega) | omega) _) ))
  have hz0 : W3.heap.size = w.heap.size + 1 + 1 + 1 := by rw [hW3]; simp
  replace hW3 := Lib.hid hW3
  have hi1 := hinv.1
  have hi2 := hinv.2.1
  have hb30 : ∀ b ∈ bs, b.2.2.length ≤ 1048576 := fun b hb => by have := (hinv.2.2 b hb).2.2.2.1; omega
  have HSC := Lib.hid (stateCopy_calls (some ad) c bs A2 c2 es W3 (Kd.C_below hr hB0) (Kd.C_below hr2 hB0) (by omega) (by omega) hb30)
  have HF := fun W hr => boxOf_calls (some ad) c bs bx W hr
  simp only [hfi] at HF
  replace HF := Lib.hid HF
  clear hfi
  go_enter Tryd.func57, Tryd.ntmps57
  go_wp2_with fail
  rw [← hW3.out]
  refine HSC.out.mono ?_
  rintro e w3 ⟨vB, vS, rfl, hS3, hE3, hb3⟩
  obtain ⟨Ab, cb, rfl⟩ := Kd.S_slice hS3
  obtain ⟨As, cs, rfl⟩ := Kd.R_slice hE3
  have hz3 := hb3.size
  obtain ⟨pb, hpbe⟩ : ∃ pb, pb = w3.heap.size := ⟨_, rfl⟩
  obtain ⟨base, hbe⟩ : ∃ base, base = W3.heap.size := ⟨_, rfl⟩
  obtain ⟨w5, hW5⟩ : ∃ w5 : World, w5 = w3.alloc (.cells #[.slice Ab bs.length cb, .slice As es.length cs] 25) := ⟨_, rfl⟩
  have hP5 : Blk w5 w.heap.size [.slice (some ad) bs.length c, .slice A2 es.length c2] := by rw [hW5]; exact (hP0.below hb3 (by omega)).alloc _
  have hX5 : Blk w5 (w.heap.size + 1) [.int .i64 5, .string bx, .int .i64 u, .int .i64 f, .string to_, .string tx] := by rw [hW5]; exact (hX0.below hb3 (by omega)).alloc _
  have hQ5 : Blk w5 (w.heap.size + 1 + 1) [.slice none 0 0, .slice none 0 0] := by rw [hW5]; exact (hQ0.below hb3 (by omega)).alloc _
  have hk5 : Blk w5 pb [.slice Ab bs.length cb, .slice As es.length cs] := by rw [hW5, hpbe]; exact Blk.made _ _ _
  have hB5 : Below w.heap.size w w5 := by rw [hW5]; exact below_alloc' (hB0.trans (hb3.mono (by omega))) (by omega) _
  have hS5 : Kd.S kBox 77 w5 base (fun k => k ≠ pb) (.slice Ab bs.length cb) bs := by rw [hW5, hbe, hpbe]; exact Kd.S_mono (Kd.S_below (Kd.S_bound hS3) (by repeat (first | exact Below.refl _ _ | apply below_alloc | apply pw_below_drewN | apply below_drew1 | (refine Below.setCell ?_ (by first | (simp; done) | (simp; omega) | omega) _) ))) (fun k hk => by have := hk.2.2.1; show k ≠ _; omega)
  have hE5 : Kd.R kAEntry 40 w5 base (fun k => k ≠ pb) (.slice As es.length cs) es := by rw [hW5, hbe, hpbe]; exact Kd.R_mono (Kd.R_below (Kd.R_bound hE3) (by repeat (first | exact Below.refl _ _ | apply below_alloc | apply pw_below_drewN | apply below_drew1 | (refine Below.setCell ?_ (by first | (simp; done) | (simp; omega) | omega) _) ))) (fun k hk => by have := hk.2.2.1; show k ≠ _; omega)
  have hp : base ≤ pb := by omega
  have hbw : w.heap.size + 1 + 1 < base := by omega
  have hC5 := Kd.C_below hr hB5
  have hz5k := hk5.lt
  have hz5p := hP5.lt
  have hz5x := hX5.lt
  have hz5q := hQ5.lt
  have p0 := (hP0.below hb3 (by omega)).at 0 _ rfl
  have x1 := (hX0.below hb3 (by omega)).at 1 _ rfl
  have hlt1 : w.heap.size < w3.heap.size := by omega
  have hlt2 : w.heap.size + 1 < w3.heap.size := by omega
  replace hW5 := Lib.hid hW5
  replace hpbe := Lib.hid hpbe
  clear hP0 hX0 hQ0 hB0 hb3 hS3 hE3 hbe hz0 hz3 hW3 HSC
  go_wp2_with fail
  rw [← hW5.out, ← hpbe.out]
  clear p0 x1 hlt1 hlt2
  have p0 := hP5.at 0 _ rfl
  have p1 := hP5.at 1 _ rfl
  have x0 := hX5.at 0 _ rfl
  have x1 := hX5.at 1 _ rfl
  have x2 := hX5.at 2 _ rfl
  have x3 := hX5.at 3 _ rfl
  have x4 := hX5.at 4 _ rfl
  have x5 := hX5.at 5 _ rfl
  have k0 := hk5.at 0 _ rfl
  have k1 := hk5.at 1 _ rfl
  refine (HF.out _ hC5).mono ?_
  rintro e w' ⟨rfl, rfl⟩
  have hadw : (ad.add (i * 3)).block < w.heap.size := lt_of_cell' b0
  have hzw : w.heap.size ≤ w5.heap.size := hB5.size
  have hCl : Kd.C kAMail w5 Ae l.length l := Kd.C_below hC hB5
  have b5 := (hB5.cell (p := ⟨(ad.add (i * 3)).block, (ad.add (i * 3)).off + 2, none⟩) hadw).trans b2
  have hl63 := hC.2.1
  clear b0 b1 k0 k1
  go_wp2_with fail
  go_loopw [10, 11, 12] (fun vK av iv wr => ∃ k : Nat, k ≤ l.length ∧ iv = .int .i64 k ∧ av = .int .i64 (findU u (l.take k) 0) ∧ Kd.R kAMail 84 wr w5.heap.size (fun _ => True) vK ((l.take k).filter keepM) ∧ Below w5.heap.size w5 wr) (fun _ _ iv _ => l.length - (intOf iv).toNat)
  case atStart => exact ⟨0, Nat.zero_le _, rfl, rfl, Kd.R_nil _ _ _ _ _, Below.refl _ _⟩
  case round =>
    obtain ⟨k, hk, rfl, rfl, hK, hBk⟩ := hrel
    obtain ⟨vK, hvK⟩ : ∃ vK, vK = u10 := ⟨_, rfl⟩
    rw [← hvK] at hK ⊢
    clear hvK
    have p0k := (hBk.cell (p := ⟨w.heap.size, 0, none⟩) hz5p).trans p0
    have x0k := (hBk.cell (p := ⟨w.heap.size + 1, 0, none⟩) hz5x).trans x0
    have x2k := (hBk.cell (p := ⟨w.heap.size + 1, 2, none⟩) hz5x).trans x2
    have b2k := (hBk.cell (p := ⟨(ad.add (i * 3)).block, (ad.add (i * 3)).off + 2, none⟩) (by show (ad.add (i * 3)).block < w5.heap.size; omega)).trans b5
    have hzk := hBk.size
    have hpk : w.heap.size < wr.heap.size := by omega
    have hxk : w.heap.size + 1 < wr.heap.size := by omega
    have hak : (ad.add (i * 3)).block < wr.heap.size := by omega
    by_cases hlt : k < l.length
    · obtain ⟨ad2, e2, hx0, hxj⟩ := flat_at (Kd.C_below hCl hBk) k hlt
      subst e2
      have m0 := hx0 _ rfl; have m1 := hxj 1 _ (by decide) rfl; have m2 := hxj 2 _ (by decide) rfl
      clear hx0 hxj
      have hts := Lib.hid (findU_step (u := u) hlt g5)
      have htf := Lib.hid (filter_step keepM hlt)
      have hfx := hfl _ (List.getElem_mem hlt)
      have hlk : ((l.take k).filter keepM).length ≤ k := Nat.le_trans (List.length_filter_le _ _) (List.length_take_le _ _)
      have k0 : (0 : Int) ≤ (k : Int) := by omega
      have k1 : (k : Int) < (l.length : Int) := by omega
      have hkeep : keepM l[k] = decide (l[k].flags / 8 % 2 = 0) := rfl
      generalize l[k] = x at *
      generalize findU u (l.take k) 0 = fu at *
      obtain ⟨A5, c5, rfl⟩ := Kd.R_slice hK
      generalize hkl : (l.take k).filter keepM = kl at *
      have d1 : Int.tdiv x.flags 8 = x.flags / 8 := Int.tdiv_eq_ediv_of_nonneg hfx.1
      have hT := Blk.made wr #[.int .i64 x.uid, .int .i64 x.flags, .string x.text] 84
      have hKa := Kd.R_below hK (show Below wr.heap.size wr (wr.alloc (.cells #[.int .i64 x.uid, .int .i64 x.flags, .string x.text] 84)) from (by repeat (first | exact Below.refl _ _ | apply below_alloc | apply pw_below_drewN | apply below_drew1 | (refine Below.setCell ?_ (by first | (simp; done) | (simp; omega) | omega) _) )))
      have hno : some wr.heap.size ≠ (Value.slice A5 kl.length c5).ownBlock := fun he => by have := Kd.R_lt hK _ he.symm; omega
      by_cases hu : x.uid = u
      · have hub : (x.uid == u) = true := by simp [hu]
        have hfu : findU u (l.take (k + 1)) 0 = (k : Int) := by rw [hts.out, if_pos hu]
        replace hfu := Lib.hid hfu
        clear hu hts
        by_cases hkp : x.flags / 8 % 2 = 0
        · have hkk : (l.take (k + 1)).filter keepM = kl ++ [x] := by rw [htf.out, if_pos (by rw [hkeep]; exact decide_eq_true hkp)]
          replace hkk := Lib.hid hkk
          have hkb : (x.flags / 8 % 2 == 0) = true := by simp [hkp]
          clear hkeep htf hkp
          go_wp2_with (at_builtin; refine snoc_list rowAMail w5.heap.size rfl _ _ rfl (.slice A5 kl.length c5) kl x [.int .i64 x.uid, .int .i64 x.flags, .string x.text] (by first | rfl | (simp [Act.eval]; done)) (by first | rfl | (simp [Act.eval]; done)) rfl hKa (by simp; omega) (by omega) ?_)
          intro v1 w6 hR6 hb6 hg6
          have hT6 := hT.grown hg6 hno
          have y0 := hT6.at 0 _ rfl
          have hz6 := hb6.size
          simp at hz6
          have x2n := (hb6.cell (p := ⟨w.heap.size + 1, 2, none⟩) hz5x).trans (cell_alloc' x2k _)
          have hB6 : Below w5.heap.size w5 w6 := Below.trans (below_alloc hBk _) hb6
          go_wp2_with fail
          go_roundw
          case rel => exact ⟨k + 1, hlt, by go_num, by rw [hfu.out], by rw [hkk.out]; exact hR6, hB6⟩
          case measure => simp [intOf]; omega
        · have hkk : (l.take (k + 1)).filter keepM = kl := by rw [htf.out, if_neg (by rw [hkeep]; simpa using hkp), List.append_nil]
          replace hkk := Lib.hid hkk
          have hkb : (x.flags / 8 % 2 == 0) = false := by simp [hkp]
          clear hkeep htf hkp
          go_wp2_with fail
          go_roundw
          case rel => exact ⟨k + 1, hlt, by go_num, by rw [hfu.out], by rw [hkk.out]; exact hKa, below_alloc hBk _⟩
          case measure => simp [intOf]; omega
      · have hub : (x.uid == u) = false := by simp [hu]
        have hfu : findU u (l.take (k + 1)) 0 = fu := by rw [hts.out, if_neg hu]
        replace hfu := Lib.hid hfu
        clear hu hts
        by_cases hkp : x.flags / 8 % 2 = 0
        · have hkk : (l.take (k + 1)).filter keepM = kl ++ [x] := by rw [htf.out, if_pos (by rw [hkeep]; exact decide_eq_true hkp)]
          replace hkk := Lib.hid hkk
          have hkb : (x.flags / 8 % 2 == 0) = true := by simp [hkp]
          clear hkeep htf hkp
          go_wp2_with (at_builtin; refine snoc_list rowAMail w5.heap.size rfl _ _ rfl (.slice A5 kl.length c5) kl x [.int .i64 x.uid, .int .i64 x.flags, .string x.text] (by first | rfl | (simp [Act.eval]; done)) (by first | rfl | (simp [Act.eval]; done)) rfl hKa (by simp; omega) (by omega) ?_)
          intro v1 w6 hR6 hb6 hg6
          have hT6 := hT.grown hg6 hno
          have y0 := hT6.at 0 _ rfl
          have hz6 := hb6.size
          simp at hz6
          have x2n := (hb6.cell (p := ⟨w.heap.size + 1, 2, none⟩) hz5x).trans (cell_alloc' x2k _)
          have hB6 : Below w5.heap.size w5 w6 := Below.trans (below_alloc hBk _) hb6
          go_wp2_with fail
          go_roundw
          case rel => exact ⟨k + 1, hlt, by go_num, by rw [hfu.out], by rw [hkk.out]; exact hR6, hB6⟩
          case measure => simp [intOf]; omega
        · have hkk : (l.take (k + 1)).filter keepM = kl := by rw [htf.out, if_neg (by rw [hkeep]; simpa using hkp), List.append_nil]
          replace hkk := Lib.hid hkk
          have hkb : (x.flags / 8 % 2 == 0) = false := by simp [hkp]
          clear hkeep htf hkp
          go_wp2_with fail
          go_roundw
          case rel => exact ⟨k + 1, hlt, by go_num, by rw [hfu.out], by rw [hkk.out]; exact hKa, below_alloc hBk _⟩
          case measure => simp [intOf]; omega
    · obtain rfl : k = l.length := by omega
      rw [List.take_length] at hK ⊢
      have k1 : ¬ (l.length : Int) < (l.length : Int) := by omega
      skip
      skip
      have hQk := hQ5.below hBk hz5q
      have hBB := hB5.trans (hBk.mono hzw)
      have p1k := (hBk.cell (p := ⟨w.heap.size, 1, none⟩) hz5p).trans p1
      have x1k := (hBk.cell (p := ⟨w.heap.size + 1, 1, none⟩) hz5x).trans x1
      have x3k := (hBk.cell (p := ⟨w.heap.size + 1, 3, none⟩) hz5x).trans x3
      have x4k := (hBk.cell (p := ⟨w.heap.size + 1, 4, none⟩) hz5x).trans x4
      have hlz := hQk.lt
      rw [hfk.out]
      obtain ⟨ad2, e2, hx0, hxj⟩ := flat_at (Kd.C_below hCl hBk) j hj
      subst e2
      rw [hmm.out] at hx0 hxj
      have m0 := hx0 _ rfl; have m1 := hxj 1 _ (by decide) rfl; have m2 := hxj 2 _ (by decide) rfl
      clear hx0 hxj
      obtain ⟨Wn, hWn⟩ : ∃ Wn : World, Wn = wr.alloc (.cells #[.int .i64 mm.uid, .int .i64 mm.flags, .string mm.text] 84) := ⟨_, rfl⟩
      have hbn : Below wr.heap.size wr Wn := by rw [hWn]; exact (by repeat (first | exact Below.refl _ _ | apply below_alloc | apply pw_below_drewN | apply below_drew1 | (refine Below.setCell ?_ (by first | (simp; done) | (simp; omega) | omega) _) ))
      have hTn : Blk Wn wr.heap.size [.int .i64 mm.uid, .int .i64 mm.flags, .string mm.text] := by rw [hWn]; exact Blk.made _ _ _
      have hQn := hQk.below hbn hQk.lt
      have hBn := hBB.trans (hbn.mono (by omega))
      have hCn := Kd.C_below hr hBn
      have t1 := hTn.at 1 _ rfl
      have t2 := hTn.at 2 _ rfl
      have p0n := (hbn.cell (p := ⟨w.heap.size, 0, none⟩) (show w.heap.size < wr.heap.size by omega)).trans ((hBk.cell (p := ⟨w.heap.size, 0, none⟩) hz5p).trans p0)
      have p1n := (hbn.cell (p := ⟨w.heap.size, 1, none⟩) (show w.heap.size < wr.heap.size by omega)).trans p1k
      have jj0 : (0 : Int) ≤ (j : Int) := by omega
      have jj1 : ¬ (j : Int) < 0 := by omega
      have jj2 : (j : Int) < (l.length : Int) := by omega
      have hlzn := hQn.lt
      replace hWn := Lib.hid hWn
      go_wp2_with fail
      rw [← hWn.out]
      refine (HF2.out _ hCn).mono ?_
      rintro e w' ⟨rfl, rfl⟩
      clear m0 m1 m2 x0k x1k x2k x3k x4k b2k p0k p1k hpk hxk hak
      go_wp2_with fail
      have hrd5 := hrd.step (Z' := fun k => Z k ∨ k = w.heap.size + 1 + 1) (hBn).size (fun k _ h => (hBn).block k h) (fun k hk hz => hz.elim id (fun h => by omega))
      have hQl := (hQn).lt
      refine (HP.out (fun k => Z k ∨ k = w.heap.size + 1 + 1) _ hrd5 (fun k hk => by rcases hk with hk | hk; have := hZ k hk; have := (hBn).size; omega; omega)).mono ?_
      rintro e w6 ⟨A6, c6, A7, c7, rfl, hc6, hrd6, hb6⟩
      simp only at hc6 hrd6 ⊢
      have hQ6 := (hQn).below hb6 hQl
      have hB6 := (hBn).trans (hb6.mono (hBn).size)
      have hz6 := hb6.size
      have q0 := hQ6.at 0 _ rfl
      have q1 := hQ6.at 1 _ rfl
      have q2 := hQ6.free 0 _ rfl
      have q3 := hQ6.free 1 _ rfl
      have hql := hQ6.lt
      go_wp2_with fail
      refine bodyPost_ret (v := .tuple #[.agg #[.slice A6 rb.length c6, .slice A7 es.length c7], .int .i64 rf]) (by simp [results, Tryd.results57, go_sem, *]) rfl ?_
      exact ⟨A6, c6, A7, c7, rfl, hc6, ((((hrd6.stored (.inr rfl) 0 _).stored (.inr rfl) 1 _)).below (by repeat (first | exact Below.refl _ _ | apply below_alloc | apply pw_below_drewN | apply below_drew1 | (refine Below.setCell ?_ (by first | (simp; done) | (simp; omega) | omega) _) ))).less (fun k hk => .inl hk), (by repeat (first | exact Below.refl _ _ | apply below_alloc | apply pw_below_drewN | apply below_drew1 | (refine Below.setCell ?_ (by first | (simp; done) | (simp; omega) | omega) _) | exact hB6))⟩
theorem entered_calls (Z : Nat → Prop) (x : AEntry) (A : Option Addr) (c : Nat) (bs : List ABox) (A2 : Option Addr) (c2 : Nat) (es : List AEntry) (w : World) (hrd : Rd Z w A bs A2 es) (hZ : ∀ k, Z k → k < w.heap.size) (hc : bs.length ≤ c) (hinv : InvS bs es) (hx : entryFault x = 0) :
    Calls Tryd.prog 57 #[.agg #[.slice A bs.length c, .slice A2 es.length c2], .agg #[.int .i64 x.kind, .string x.box, .int .i64 x.uid, .int .i64 x.flags, .string x.to_, .string x.text]] w (PostSt Z w (entV bs es x)) := by
  obtain ⟨a1, a2, a3, a4, a5, _⟩ := ef_ok hx
  obtain ⟨k, bx, u, f, to_, tx⟩ := x
  simp only at a1 a2 a3 a4 a5 ⊢
  clear hx
  rcases (by omega : k = 6 ∨ k = 1 ∨ k = 2 ∨ k = 3 ∨ k = 4 ∨ k = 5) with rfl | rfl | hk
  · exact entered_spool Z bx u f to_ tx A c bs A2 c2 es w hrd hZ hc hinv
  · exact entered_create Z bx u f to_ tx A c bs A2 c2 es w hrd hZ hc hinv
  · by_cases hf : findG bx bs 0 < 0
    · exact entered_none Z k bx u f to_ tx A c bs A2 c2 es w hrd hZ hc hinv (by omega) (by omega) hf
    · obtain ⟨i, hfi, hi⟩ : ∃ i : Nat, findG bx bs 0 = (i : Int) ∧ i < bs.length := by
        rcases findG_lt (nm := bx) bs 0 with h1 | h1
        · omega
        · exact ⟨(findG bx bs 0).toNat, by omega, by omega⟩
      by_cases hk2 : k = 2
      · subst hk2; exact entered_append Z i bx u f to_ tx A c bs A2 c2 es w hrd hZ hc hinv a5 hfi hi
      · by_cases hk4 : k = 4
        · subst hk4; exact entered_expunge Z i bx u f to_ tx A c bs A2 c2 es w hrd hZ hc hinv hfi hi
        · by_cases hu : findU u (mailsAt bs i) 0 < 0
          · exact entered_miss Z i k bx u f to_ tx A c bs A2 c2 es w hrd hZ hc hinv (by omega) hfi hi hu
          · obtain ⟨j, hfj, hj⟩ : ∃ j : Nat, findU u (mailsAt bs i) 0 = (j : Int) ∧ j < (mailsAt bs i).length := by
              rcases findU_lt (u := u) (mailsAt bs i) 0 with h1 | h1
              · omega
              · exact ⟨(findU u (mailsAt bs i) 0).toNat, by omega, by omega⟩
            rcases (by omega : k = 3 ∨ k = 5) with rfl | rfl
            · exact entered_flag Z i j bx u f to_ tx A c bs A2 c2 es w hrd hZ hc hinv hfi hi hfj hj
            · by_cases hneg : findG to_ bs 0 < 0
              · exact entered_copy Z i j bx u f to_ tx A c bs A2 c2 es w hrd hZ hc hinv hfi hi hfj hj hneg
              · obtain ⟨t, ht, htl⟩ : ∃ t : Nat, findG to_ bs 0 = (t : Int) ∧ t < bs.length := by
                  rcases findG_lt (nm := to_) bs 0 with h1 | h1
                  · omega
                  · exact ⟨(findG to_ bs 0).toNat, by omega, by omega⟩
                exact entered_copied Z i j t bx u f to_ tx A c bs A2 c2 es w hrd hZ hc hinv hfi hi hfj hj ht htl
end Go.Proofs.YtijdghplfhfpaaaDoor.H

/- Boxes: box.apply: Create. -/
namespace Go.Proofs.YtijdghplfhfpaaaDoor.H
open Go.RowKit Go.Proofs.YtijdghplfhfpaaaDoorW.PrintWords Go.Proofs.YtijdghplfhfpaaaDoorW.PrintLast Go.Proofs.YtijdghplfhfpaaaDoor.U
set_option linter.unusedVariables false
set_option linter.unusedSimpArgs false
set_option maxHeartbeats 2000000 in
set_option maxRecDepth 100000 in
theorem apply_create (pb : Nat) (bx : ByteArray) (u f : Int) (to_ tx : ByteArray) (base : Nat) (bs : List ABox) (es : List AEntry) (w : World) (h : StB w base pb bs es) (hinv : InvS bs es) :
    Calls Tryd.prog 55 #[.pointer (some ⟨pb, 0, none⟩), .agg #[.int .i64 1, .string bx, .int .i64 u, .int .i64 f, .string to_, .string tx]] w fun e w' => e = .returned (.int .i64 (entV bs es ⟨1, bx, u, f, to_, tx⟩).1) ∧ StB w' base pb (entV bs es ⟨1, bx, u, f, to_, tx⟩).2.1 (entV bs es ⟨1, bx, u, f, to_, tx⟩).2.2 ∧ Below base w w' := by
  have hbase := h.bases
  have hpb := h.lt
  have hev : entV bs es ⟨1, bx, u, f, to_, tx⟩ = if 0 ≤ findG bx bs 0 then (10, bs, es) else if 5 ≤ bs.length then (5, bs, es) else (0, bs ++ [(bx, 1, [])], es) := (if_neg (by show ¬ ((1 : Int) = 6); decide)).trans (if_pos rfl)
  rw [hev]
  clear hev
  have h5 := hinv.1
  obtain ⟨fi, hfi⟩ : ∃ fi, findG bx bs 0 = fi := ⟨_, rfl⟩
  rw [hfi]
  by_cases hf0 : 0 ≤ fi
  · rw [if_pos hf0]
    obtain ⟨vB, vS, hk, hp, hS, hE⟩ := h
    obtain ⟨A, c, rfl, hc, hC⟩ := Kd.S_reads hS
    obtain ⟨A3, c3, rfl⟩ := Kd.R_slice hE
    have hEl := Kd.R_lt hE
    have hSl := Kd.S_lt hS
    obtain ⟨W1, hW1⟩ : ∃ W1 : World, W1 = w.alloc (.cells #[.int .i64 1, .string bx, .int .i64 u, .int .i64 f, .string to_, .string tx] 40) := ⟨_, rfl⟩
    have hX1 : Blk W1 w.heap.size [.int .i64 1, .string bx, .int .i64 u, .int .i64 f, .string to_, .string tx] := by rw [hW1]; exact Blk.made w _ _
    have hXT : W1.heap[w.heap.size]? = some (.cells #[.int .i64 1, .string bx, .int .i64 u, .int .i64 f, .string to_, .string tx] 40 (0, 0)) := by rw [hW1]; show (w.heap.push _)[w.heap.size]? = _; rw [Array.getElem?_push_size]
    have hb1 : Below w.heap.size w W1 := by rw [hW1]; exact (by repeat (first | exact Below.refl _ _ | apply below_alloc | apply pw_below_drewN | apply below_drew1 | (refine Below.setCell ?_ (by first | (simp; done) | (simp; omega) | omega) _) ))
    have hk1 := hk.below hb1 hpb
    have hz1 : W1.heap.size = w.heap.size + 1 := by rw [hW1]; simp
    have hC1 := Kd.C_below hC hb1
    have HF := fun W hr => find_calls A c bs bx W hr
    have d0 := cell_drew' (hk1.at 0 _ rfl)
    have d1 := cell_drew' (hX1.at 1 _ rfl)
    replace hW1 := Lib.hid hW1
    simp only [hfi] at HF
    clear hfi
    replace HF := Lib.hid HF
    go_enter Tryd.func55, Tryd.ntmps55
    go_wp2_with fail
    rw [← hW1.out]
    go_region_held3 (fun w' => w'.cell? ⟨pb, 0, none⟩ = some (.slice A bs.length c) ∧ w'.cell? ⟨w.heap.size, 1, none⟩ = some (.string bx)) (first | exact ⟨d0, d1⟩ | exact ⟨k0, k1⟩ | go_keep) ((go_at_call 47; refine (HF.out _ (Kd.C_below hC1 (by repeat (first | exact Below.refl _ _ | apply below_alloc | apply pw_below_drewN | apply below_drew1 | (refine Below.setCell ?_ (by first | (simp; done) | (simp; omega) | omega) _) )))).mono ?_; rintro e w5 ⟨rfl, hb5⟩; have k0 := (hb5.cell (lt_of_cell' d0)).trans d0; have k1 := (hb5.cell (lt_of_cell' d1)).trans d1))
    have hb6 : Below W1.heap.size W1 w5 := Below.trans (show Below W1.heap.size W1 W1.drew from (by repeat (first | exact Below.refl _ _ | apply below_alloc | apply pw_below_drewN | apply below_drew1 | (refine Below.setCell ?_ (by first | (simp; done) | (simp; omega) | omega) _) ))) (hb5.mono (by simp))
    have hz5 := hb6.size
    have hX5 := hX1.below hb6 (by omega)
    have hXT5 := (hb6.block w.heap.size (by omega)).trans hXT
    clear hXT
    have hk5 := hk1.below hb6 (by omega)
    have hS5 := Kd.S_below (Kd.S_below hS hb1) hb6
    have hE5 := Kd.R_below (Kd.R_below hE hb1) hb6
    have hB5 := (hb1.mono hbase).trans (hb6.mono (by omega))
    clear hX1 hk1 hC1 hb5 d0 d1 k0 k1 hk hS hE hC
    have m0 := hk5.at 0 _ rfl
    have m1 := hk5.at 1 _ rfl
    have x0 := hX5.at 0 _ rfl
    have x1 := hX5.at 1 _ rfl
    have x2 := hX5.at 2 _ rfl
    have x3 := hX5.at 3 _ rfl
    have x4 := hX5.at 4 _ rfl
    have x5 := hX5.at 5 _ rfl
    go_wp2_with fail
    go_ret
    exact ⟨(by first | rfl | (simp; done) | (simp [*]; done) | (rw [if_pos (by omega)]; first | rfl | (simp; done)) | (rw [if_neg (by omega)]; first | rfl | (simp; done)) | (simp; omega)), ⟨_, _, hk5, hp, hS5, hE5⟩, hB5⟩
  · rw [if_neg hf0]
    by_cases hf : bs.length = 5
    · rw [if_pos (by omega)]
      have e5 : ((bs.length : Int) == 5) = true := by rw [beq_iff_eq]; omega
      clear hf
      obtain ⟨vB, vS, hk, hp, hS, hE⟩ := h
      obtain ⟨A, c, rfl, hc, hC⟩ := Kd.S_reads hS
      obtain ⟨A3, c3, rfl⟩ := Kd.R_slice hE
      have hEl := Kd.R_lt hE
      have hSl := Kd.S_lt hS
      obtain ⟨W1, hW1⟩ : ∃ W1 : World, W1 = w.alloc (.cells #[.int .i64 1, .string bx, .int .i64 u, .int .i64 f, .string to_, .string tx] 40) := ⟨_, rfl⟩
      have hX1 : Blk W1 w.heap.size [.int .i64 1, .string bx, .int .i64 u, .int .i64 f, .string to_, .string tx] := by rw [hW1]; exact Blk.made w _ _
      have hXT : W1.heap[w.heap.size]? = some (.cells #[.int .i64 1, .string bx, .int .i64 u, .int .i64 f, .string to_, .string tx] 40 (0, 0)) := by rw [hW1]; show (w.heap.push _)[w.heap.size]? = _; rw [Array.getElem?_push_size]
      have hb1 : Below w.heap.size w W1 := by rw [hW1]; exact (by repeat (first | exact Below.refl _ _ | apply below_alloc | apply pw_below_drewN | apply below_drew1 | (refine Below.setCell ?_ (by first | (simp; done) | (simp; omega) | omega) _) ))
      have hk1 := hk.below hb1 hpb
      have hz1 : W1.heap.size = w.heap.size + 1 := by rw [hW1]; simp
      have hC1 := Kd.C_below hC hb1
      have HF := fun W hr => find_calls A c bs bx W hr
      have d0 := cell_drew' (hk1.at 0 _ rfl)
      have d1 := cell_drew' (hX1.at 1 _ rfl)
      replace hW1 := Lib.hid hW1
      simp only [hfi] at HF
      clear hfi
      replace HF := Lib.hid HF
      go_enter Tryd.func55, Tryd.ntmps55
      go_wp2_with fail
      rw [← hW1.out]
      go_region_held3 (fun w' => w'.cell? ⟨pb, 0, none⟩ = some (.slice A bs.length c) ∧ w'.cell? ⟨w.heap.size, 1, none⟩ = some (.string bx)) (first | exact ⟨d0, d1⟩ | exact ⟨k0, k1⟩ | go_keep) ((go_at_call 47; refine (HF.out _ (Kd.C_below hC1 (by repeat (first | exact Below.refl _ _ | apply below_alloc | apply pw_below_drewN | apply below_drew1 | (refine Below.setCell ?_ (by first | (simp; done) | (simp; omega) | omega) _) )))).mono ?_; rintro e w5 ⟨rfl, hb5⟩; have k0 := (hb5.cell (lt_of_cell' d0)).trans d0; have k1 := (hb5.cell (lt_of_cell' d1)).trans d1))
      have hb6 : Below W1.heap.size W1 w5 := Below.trans (show Below W1.heap.size W1 W1.drew from (by repeat (first | exact Below.refl _ _ | apply below_alloc | apply pw_below_drewN | apply below_drew1 | (refine Below.setCell ?_ (by first | (simp; done) | (simp; omega) | omega) _) ))) (hb5.mono (by simp))
      have hz5 := hb6.size
      have hX5 := hX1.below hb6 (by omega)
      have hXT5 := (hb6.block w.heap.size (by omega)).trans hXT
      clear hXT
      have hk5 := hk1.below hb6 (by omega)
      have hS5 := Kd.S_below (Kd.S_below hS hb1) hb6
      have hE5 := Kd.R_below (Kd.R_below hE hb1) hb6
      have hB5 := (hb1.mono hbase).trans (hb6.mono (by omega))
      clear hX1 hk1 hC1 hb5 d0 d1 k0 k1 hk hS hE hC
      have m0 := hk5.at 0 _ rfl
      have m1 := hk5.at 1 _ rfl
      have x0 := hX5.at 0 _ rfl
      have x1 := hX5.at 1 _ rfl
      have x2 := hX5.at 2 _ rfl
      have x3 := hX5.at 3 _ rfl
      have x4 := hX5.at 4 _ rfl
      have x5 := hX5.at 5 _ rfl
      go_wp2_with fail
      go_ret
      exact ⟨(by first | rfl | (simp; done) | (simp [*]; done) | (rw [if_pos (by omega)]; first | rfl | (simp; done)) | (rw [if_neg (by omega)]; first | rfl | (simp; done)) | (simp; omega)), ⟨_, _, hk5, hp, hS5, hE5⟩, hB5⟩
    · rw [if_neg (by omega)]
      have e5 : ((bs.length : Int) == 5) = false := by rw [beq_eq_false_iff_ne]; omega
      clear hf
      obtain ⟨vB, vS, hk, hp, hS, hE⟩ := h
      obtain ⟨A, c, rfl, hc, hC⟩ := Kd.S_reads hS
      obtain ⟨A3, c3, rfl⟩ := Kd.R_slice hE
      have hEl := Kd.R_lt hE
      have hSl := Kd.S_lt hS
      obtain ⟨W1, hW1⟩ : ∃ W1 : World, W1 = w.alloc (.cells #[.int .i64 1, .string bx, .int .i64 u, .int .i64 f, .string to_, .string tx] 40) := ⟨_, rfl⟩
      have hX1 : Blk W1 w.heap.size [.int .i64 1, .string bx, .int .i64 u, .int .i64 f, .string to_, .string tx] := by rw [hW1]; exact Blk.made w _ _
      have hXT : W1.heap[w.heap.size]? = some (.cells #[.int .i64 1, .string bx, .int .i64 u, .int .i64 f, .string to_, .string tx] 40 (0, 0)) := by rw [hW1]; show (w.heap.push _)[w.heap.size]? = _; rw [Array.getElem?_push_size]
      have hb1 : Below w.heap.size w W1 := by rw [hW1]; exact (by repeat (first | exact Below.refl _ _ | apply below_alloc | apply pw_below_drewN | apply below_drew1 | (refine Below.setCell ?_ (by first | (simp; done) | (simp; omega) | omega) _) ))
      have hk1 := hk.below hb1 hpb
      have hz1 : W1.heap.size = w.heap.size + 1 := by rw [hW1]; simp
      have hC1 := Kd.C_below hC hb1
      have HF := fun W hr => find_calls A c bs bx W hr
      have d0 := cell_drew' (hk1.at 0 _ rfl)
      have d1 := cell_drew' (hX1.at 1 _ rfl)
      replace hW1 := Lib.hid hW1
      simp only [hfi] at HF
      clear hfi
      replace HF := Lib.hid HF
      go_enter Tryd.func55, Tryd.ntmps55
      go_wp2_with fail
      rw [← hW1.out]
      go_region_held3 (fun w' => w'.cell? ⟨pb, 0, none⟩ = some (.slice A bs.length c) ∧ w'.cell? ⟨w.heap.size, 1, none⟩ = some (.string bx)) (first | exact ⟨d0, d1⟩ | exact ⟨k0, k1⟩ | go_keep) ((go_at_call 47; refine (HF.out _ (Kd.C_below hC1 (by repeat (first | exact Below.refl _ _ | apply below_alloc | apply pw_below_drewN | apply below_drew1 | (refine Below.setCell ?_ (by first | (simp; done) | (simp; omega) | omega) _) )))).mono ?_; rintro e w5 ⟨rfl, hb5⟩; have k0 := (hb5.cell (lt_of_cell' d0)).trans d0; have k1 := (hb5.cell (lt_of_cell' d1)).trans d1))
      have hb6 : Below W1.heap.size W1 w5 := Below.trans (show Below W1.heap.size W1 W1.drew from (by repeat (first | exact Below.refl _ _ | apply below_alloc | apply pw_below_drewN | apply below_drew1 | (refine Below.setCell ?_ (by first | (simp; done) | (simp; omega) | omega) _) ))) (hb5.mono (by simp))
      have hz5 := hb6.size
      have hX5 := hX1.below hb6 (by omega)
      have hXT5 := (hb6.block w.heap.size (by omega)).trans hXT
      clear hXT
      have hk5 := hk1.below hb6 (by omega)
      have hS5 := Kd.S_below (Kd.S_below hS hb1) hb6
      have hE5 := Kd.R_below (Kd.R_below hE hb1) hb6
      have hB5 := (hb1.mono hbase).trans (hb6.mono (by omega))
      clear hX1 hk1 hC1 hb5 d0 d1 k0 k1 hk hS hE hC
      have m0 := hk5.at 0 _ rfl
      have m1 := hk5.at 1 _ rfl
      have x0 := hX5.at 0 _ rfl
      have x1 := hX5.at 1 _ rfl
      have x2 := hX5.at 2 _ rfl
      have x3 := hX5.at 3 _ rfl
      have x4 := hX5.at 4 _ rfl
      have x5 := hX5.at 5 _ rfl
      go_wp2_with fail
      have hSd := Kd.S_drew hS5
      have m0d := cell_drew' m0
      have hpx : pb ≠ w.heap.size := by omega
      have m0a := cell_alloc' m0 (.cells #[.string bx, .int .i64 1, .slice none 0 0] 77)
      refine wp_region_held_drew (S := fun w' => w'.cell? ⟨w.heap.size, 1, none⟩ = some (.string bx)) (by kernel_rfl) ?_ (fun hHeld => ?_)
      · exact hX5.drew.at 1 _ rfl
      refine wpAnyH_take (i := 0) (oi := { dst := some 54, op := _, type := _, pos := _, after := _, guard := _ }) (v := .pointer (some ⟨pb, 0, none⟩)) rfl (by kernel_rfl) (by kernel_rfl) (by kernel_rfl) (fun _ _ _ h => h) (Or.inl ⟨by rfl, by (intro w hSw; (try dsimp only at hSw); first | (go_simp; done) | (go_simp; with_reducible rfl) | (go_simp; omega) | (go_simp; simp [*]; done))⟩) (by assumption) ?_; try simp only [Act.put, List.setIfInBounds_toArray, List.set_cons_zero, List.set_cons_succ]
      refine wpAnyH_take (i := 1) (oi := { dst := some 55, op := _, type := _, pos := _, after := _, guard := _ }) (v := .pointer (some ⟨pb, 0, none⟩)) rfl (by kernel_rfl) (by kernel_rfl) (by kernel_rfl) (fun _ _ _ h => h) (Or.inl ⟨by rfl, by (intro w hSw; (try dsimp only at hSw); first | (go_simp; done) | (go_simp; with_reducible rfl) | (go_simp; omega) | (go_simp; simp [*]; done))⟩) (by assumption) ?_; try simp only [Act.put, List.setIfInBounds_toArray, List.set_cons_zero, List.set_cons_succ]
      refine wpAnyH_take (i := 2) (oi := { dst := some 56, op := _, type := _, pos := _, after := _, guard := _ }) (v := .pointer (some ⟨pb, 0, none⟩)) rfl (by kernel_rfl) (by kernel_rfl) (by kernel_rfl) (fun _ _ _ h => h) (Or.inl ⟨by rfl, by (intro w hSw; (try dsimp only at hSw); first | (go_simp; done) | (go_simp; with_reducible rfl) | (go_simp; omega) | (go_simp; simp [*]; done))⟩) (by assumption) ?_; try simp only [Act.put, List.setIfInBounds_toArray, List.set_cons_zero, List.set_cons_succ]
      refine wpAnyH_take (i := 3) (oi := { dst := some 57, op := _, type := _, pos := _, after := _, guard := _ }) (v := .pointer (some ⟨pb, 0, none⟩)) rfl (by kernel_rfl) (by kernel_rfl) (by kernel_rfl) (fun _ _ _ h => h) (Or.inl ⟨by rfl, by (intro w hSw; (try dsimp only at hSw); first | (go_simp; done) | (go_simp; with_reducible rfl) | (go_simp; omega) | (go_simp; simp [*]; done))⟩) (by assumption) ?_; try simp only [Act.put, List.setIfInBounds_toArray, List.set_cons_zero, List.set_cons_succ]
      refine wpAnyH_take (i := 5) (oi := { dst := some 59, op := _, type := _, pos := _, after := _, guard := _ }) (v := .pointer (some ⟨w.heap.size, 1, none⟩)) rfl (by kernel_rfl) (by kernel_rfl) (by kernel_rfl) (fun _ _ _ h => h) (Or.inl ⟨by rfl, by (intro w hSw; (try dsimp only at hSw); first | (go_simp; done) | (go_simp; with_reducible rfl) | (go_simp; omega) | (go_simp; simp [*]; done))⟩) (by assumption) ?_; try simp only [Act.put, List.setIfInBounds_toArray, List.set_cons_zero, List.set_cons_succ]
      refine wpAnyH_take (i := 6) (oi := { dst := some 60, op := _, type := _, pos := _, after := _, guard := _ }) (v := .string bx) rfl (by kernel_rfl) (by kernel_rfl) (by kernel_rfl) (fun _ _ _ h => h) (Or.inl ⟨by rfl, by (intro w hSw; (try dsimp only at hSw); first | (go_simp; done) | (go_simp; with_reducible rfl) | (go_simp; omega) | (go_simp; simp [*]; done))⟩) (by assumption) ?_; try simp only [Act.put, List.setIfInBounds_toArray, List.set_cons_zero, List.set_cons_succ]
      refine wpAnyH_take (i := 7) (oi := { dst := some 61, op := _, type := _, pos := _, after := _, guard := _ }) (v := .agg #[.string bx, .int .i64 1, .slice none 0 0]) rfl (by kernel_rfl) (by kernel_rfl) (by kernel_rfl) (fun _ _ _ h => h) (Or.inl ⟨by rfl, by (intro w hSw; (try dsimp only at hSw); first | (go_simp; done) | (go_simp; with_reducible rfl) | (go_simp; omega) | (go_simp; simp [*]; done))⟩) (by assumption) ?_; try simp only [Act.put, List.setIfInBounds_toArray, List.set_cons_zero, List.set_cons_succ]
      refine wpAnyH_ready (rs := [4, 8]) (by kernel_rfl) (by simp) ?_
      refine AllReadyH.cons (o := { dst := some 58, op := _, type := _, pos := _, after := _, guard := _ }) rfl (fun K hK => ?_) (AllReadyH.cons (o := { dst := some 62, op := _, type := _, pos := _, after := _, guard := _ }) rfl (fun K hK => ?_) AllReadyH.nil)
      · go_simp
        refine hK.out _ _ (hX5.drew.at 1 _ rfl) (fun hHeld => ?_)
        clear hK K
        refine wpAnyH_ready (rs := [8]) (by kernel_rfl) (by simp) ?_
        refine AllReadyH.cons (o := { dst := some 62, op := _, type := _, pos := _, after := _, guard := _ }) rfl (fun K hK => ?_) AllReadyH.nil
        go_simp
        refine hK.out _ _ ((hX5.drew.alloc _).at 1 _ rfl) (fun hHeld => ?_)
        clear hK K
        refine wpAnyH_ready (rs := [9]) (by kernel_rfl) (by simp) ?_
        refine AllReadyH.cons (o := { dst := some 63, op := _, type := _, pos := _, after := _, guard := _ }) rfl (fun K hK => ?_) AllReadyH.nil
        refine box_step base (by rfl) (.tmp 58) (.tmp 62) (by rfl) (.slice A bs.length c) bs bx 1 (fun k => k ≠ pb) (by rfl) (by rfl) (fun k hk => (by simp at hk; omega)) hSd (by simp; omega) (by omega) ?_
        intro v1 w6 hS6 hb7 hg6
        obtain ⟨A6, c6, h6⟩ := Kd.S_slice hS6
        rw [List.length_append] at h6
        subst h6
        have hpo : some pb ≠ (Value.slice A bs.length c).ownBlock := fun he => (Kd.S_R hSd).1 pb he.symm rfl
        have hk6 := (hk5.drew).grown hg6 hpo
        have hX6 := (hX5.drew).grown hg6 (fun he => by have := hSl _ he.symm; omega)
        have hE6 := Kd.R_over' (Kd.R_drew hE5) (Kd.S_typed hSd) (by decide) hg6
        have hz6 := hb7.size
        have g1 := hk6.at 0 _ rfl
        have g2 := hk6.free 0 _ rfl
        refine hK.out _ _ (hX6.at 1 _ rfl) (fun hHeld => ?_)
        clear hK K
        refine wpAnyH_take (i := 10) (oi := { dst := some 64, op := _, type := _, pos := _, after := _, guard := _ }) (v := .pointer (some ⟨pb, 0, none⟩)) rfl (by kernel_rfl) (by kernel_rfl) (by kernel_rfl) (fun _ _ _ h => h) (Or.inl ⟨by rfl, by (intro w hSw; (try dsimp only at hSw); first | (go_simp; done) | (go_simp; with_reducible rfl) | (go_simp; omega) | (go_simp; simp [*]; done))⟩) (by assumption) ?_; try simp only [Act.put, List.setIfInBounds_toArray, List.set_cons_zero, List.set_cons_succ]
        refine wpAnyH_take (i := 11) (oi := { dst := some 65, op := _, type := _, pos := _, after := _, guard := _ }) (v := .pointer (some ⟨pb, 0, none⟩)) rfl (by kernel_rfl) (by kernel_rfl) (by kernel_rfl) (fun _ _ _ h => h) (Or.inl ⟨by rfl, by (intro w hSw; (try dsimp only at hSw); first | (go_simp; done) | (go_simp; with_reducible rfl) | (go_simp; omega) | (go_simp; simp [*]; done))⟩) (by assumption) ?_; try simp only [Act.put, List.setIfInBounds_toArray, List.set_cons_zero, List.set_cons_succ]
        refine wpAnyH_ready (rs := [12]) (by kernel_rfl) (by simp) ?_
        refine AllReadyH.cons (o := { dst := none, op := _, type := _, pos := _, after := _, guard := _ }) rfl (fun K hK => ?_) AllReadyH.nil
        go_simp
        refine hK.out _ _ ((hX6.other (c := pb) (j := 0) hpx _).at 1 _ rfl) (fun hHeld => ?_)
        clear hK K
        refine wpAnyH_done (by kernel_rfl) ?_ _
        have hst : StB (w6.setCell ⟨pb, 0, none⟩ (.slice A6 (bs.length + 1) c6)) base pb (bs ++ [(bx, 1, [])]) es := ⟨_, _, hk6.set 0 (.slice A6 (bs.length + 1) c6) (by simp), hp, Kd.S_far (p := ⟨pb, 0, none⟩) hS6 (fun k hk => hk) _, Kd.R_far (p := ⟨pb, 0, none⟩) hE6 (fun k hk => hk) _⟩
        have hB6 : Below base w (w6.setCell ⟨pb, 0, none⟩ (.slice A6 (bs.length + 1) c6)) := Below.setCell (Below.trans (below_drew hB5) hb7) hp _
        go_wp2_with fail
        go_ret
        exact ⟨(by first | rfl | (simp; done) | (simp [*]; done) | (rw [if_pos (by omega)]; first | rfl | (simp; done)) | (rw [if_neg (by omega)]; first | rfl | (simp; done)) | (simp; omega)), hst, hB6⟩
      · go_simp
        refine hK.out _ _ ((hX5.drew.alloc _).at 1 _ rfl) (fun hHeld => ?_)
        clear hK K
        refine wpAnyH_ready (rs := [4]) (by kernel_rfl) (by simp) ?_
        refine AllReadyH.cons (o := { dst := some 58, op := _, type := _, pos := _, after := _, guard := _ }) rfl (fun K hK => ?_) AllReadyH.nil
        go_simp
        refine hK.out _ _ ((hX5.drew.alloc _).at 1 _ rfl) (fun hHeld => ?_)
        clear hK K
        refine wpAnyH_ready (rs := [9]) (by kernel_rfl) (by simp) ?_
        refine AllReadyH.cons (o := { dst := some 63, op := _, type := _, pos := _, after := _, guard := _ }) rfl (fun K hK => ?_) AllReadyH.nil
        refine box_step base (by rfl) (.tmp 58) (.tmp 62) (by rfl) (.slice A bs.length c) bs bx 1 (fun k => k ≠ pb) (by rfl) (by rfl) (fun k hk => (by simp at hk; omega)) hSd (by simp; omega) (by omega) ?_
        intro v1 w6 hS6 hb7 hg6
        obtain ⟨A6, c6, h6⟩ := Kd.S_slice hS6
        rw [List.length_append] at h6
        subst h6
        have hpo : some pb ≠ (Value.slice A bs.length c).ownBlock := fun he => (Kd.S_R hSd).1 pb he.symm rfl
        have hk6 := (hk5.drew).grown hg6 hpo
        have hX6 := (hX5.drew).grown hg6 (fun he => by have := hSl _ he.symm; omega)
        have hE6 := Kd.R_over' (Kd.R_drew hE5) (Kd.S_typed hSd) (by decide) hg6
        have hz6 := hb7.size
        have g1 := hk6.at 0 _ rfl
        have g2 := hk6.free 0 _ rfl
        refine hK.out _ _ (hX6.at 1 _ rfl) (fun hHeld => ?_)
        clear hK K
        refine wpAnyH_take (i := 10) (oi := { dst := some 64, op := _, type := _, pos := _, after := _, guard := _ }) (v := .pointer (some ⟨pb, 0, none⟩)) rfl (by kernel_rfl) (by kernel_rfl) (by kernel_rfl) (fun _ _ _ h => h) (Or.inl ⟨by rfl, by (intro w hSw; (try dsimp only at hSw); first | (go_simp; done) | (go_simp; with_reducible rfl) | (go_simp; omega) | (go_simp; simp [*]; done))⟩) (by assumption) ?_; try simp only [Act.put, List.setIfInBounds_toArray, List.set_cons_zero, List.set_cons_succ]
        refine wpAnyH_take (i := 11) (oi := { dst := some 65, op := _, type := _, pos := _, after := _, guard := _ }) (v := .pointer (some ⟨pb, 0, none⟩)) rfl (by kernel_rfl) (by kernel_rfl) (by kernel_rfl) (fun _ _ _ h => h) (Or.inl ⟨by rfl, by (intro w hSw; (try dsimp only at hSw); first | (go_simp; done) | (go_simp; with_reducible rfl) | (go_simp; omega) | (go_simp; simp [*]; done))⟩) (by assumption) ?_; try simp only [Act.put, List.setIfInBounds_toArray, List.set_cons_zero, List.set_cons_succ]
        refine wpAnyH_ready (rs := [12]) (by kernel_rfl) (by simp) ?_
        refine AllReadyH.cons (o := { dst := none, op := _, type := _, pos := _, after := _, guard := _ }) rfl (fun K hK => ?_) AllReadyH.nil
        go_simp
        refine hK.out _ _ ((hX6.other (c := pb) (j := 0) hpx _).at 1 _ rfl) (fun hHeld => ?_)
        clear hK K
        refine wpAnyH_done (by kernel_rfl) ?_ _
        have hst : StB (w6.setCell ⟨pb, 0, none⟩ (.slice A6 (bs.length + 1) c6)) base pb (bs ++ [(bx, 1, [])]) es := ⟨_, _, hk6.set 0 (.slice A6 (bs.length + 1) c6) (by simp), hp, Kd.S_far (p := ⟨pb, 0, none⟩) hS6 (fun k hk => hk) _, Kd.R_far (p := ⟨pb, 0, none⟩) hE6 (fun k hk => hk) _⟩
        have hB6 : Below base w (w6.setCell ⟨pb, 0, none⟩ (.slice A6 (bs.length + 1) c6)) := Below.setCell (Below.trans (below_drew hB5) hb7) hp _
        go_wp2_with fail
        go_ret
        exact ⟨(by first | rfl | (simp; done) | (simp [*]; done) | (rw [if_pos (by omega)]; first | rfl | (simp; done)) | (rw [if_neg (by omega)]; first | rfl | (simp; done)) | (simp; omega)), hst, hB6⟩
end Go.Proofs.YtijdghplfhfpaaaDoor.H

/- Boxes: box.apply: Copy; the whole. -/
namespace Go.Proofs.YtijdghplfhfpaaaDoor.H
open Go.RowKit Go.Proofs.YtijdghplfhfpaaaDoorW.PrintWords Go.Proofs.YtijdghplfhfpaaaDoorW.PrintLast Go.Proofs.YtijdghplfhfpaaaDoor.U
set_option linter.unusedVariables false
set_option linter.unusedSimpArgs false
set_option maxHeartbeats 2000000 in
set_option maxRecDepth 100000 in
theorem apply_copy (pb i j : Nat) (bx : ByteArray) (u f : Int) (to_ tx : ByteArray) (base : Nat) (bs : List ABox) (es : List AEntry) (w : World) (h : StB w base pb bs es) (hinv : InvS bs es) (hfi : findG bx bs 0 = (i : Int)) (hi : i < bs.length) (hfk : findU u (mailsAt bs i) 0 = (j : Int)) (hj : j < (mailsAt bs i).length) :
    Calls Tryd.prog 55 #[.pointer (some ⟨pb, 0, none⟩), .agg #[.int .i64 5, .string bx, .int .i64 u, .int .i64 f, .string to_, .string tx]] w fun e w' => e = .returned (.int .i64 (entV bs es ⟨5, bx, u, f, to_, tx⟩).1) ∧ StB w' base pb (entV bs es ⟨5, bx, u, f, to_, tx⟩).2.1 (entV bs es ⟨5, bx, u, f, to_, tx⟩).2.2 ∧ Below base w w' := by
  have hbase := h.bases
  have hpb := h.lt
  obtain ⟨nm, nx, l, hb⟩ : ∃ nm nx l, bs[i] = (nm, nx, l) := ⟨_, _, _, rfl⟩
  rw [mailsAt_of hi hb] at hfk hj
  obtain ⟨m, hm⟩ : ∃ m, l[j] = m := ⟨_, rfl⟩
  have hcv : ∀ z, copyV bs l j z = if z < 0 then (7, bs) else addV bs z.toNat m.flags m.text := fun z => by
    unfold copyV
    rw [List.getElem?_eq_getElem hj, hm]
  have hmv : mailV bs i ⟨5, bx, u, f, to_, tx⟩ = copyV bs l j (findG to_ bs 0) := by
    rw [mailV, if_neg (by show ¬ ((5 : Int) = 2); decide), if_neg (by show ¬ ((5 : Int) = 4); decide), mailsAt_of hi hb]
    simp only [hfk]
    rw [if_neg (by omega), if_neg (by decide), Int.toNat_natCast]
  rw [entV_mail (x := ⟨5, bx, u, f, to_, tx⟩) (by show ¬ ((5 : Int) = 6); decide) (by show ¬ ((5 : Int) = 1); decide) hfi, hmv, hcv]
  rw [findU_P] at hfk
  have i0 : (0 : Int) ≤ (i : Int) := by omega
  have i1 : ¬ (i : Int) < 0 := by omega
  have i2 : (i : Int) < (bs.length : Int) := by omega
  have j0 : (0 : Int) ≤ (j : Int) := by omega
  have j1 : ¬ (j : Int) < 0 := by omega
  have j2 : (j : Int) < (l.length : Int) := by omega
  clear hmv hcv
  by_cases hneg : findG to_ bs 0 < 0
  · rw [if_pos hneg]
    obtain ⟨z, hz⟩ : ∃ z, findG to_ bs 0 = z := ⟨_, rfl⟩
    rw [hz] at hneg
    skip
    obtain ⟨vB, vS, hk, hp, hS, hE⟩ := h
    obtain ⟨A, c, rfl, hc, hC⟩ := Kd.S_reads hS
    obtain ⟨A3, c3, rfl⟩ := Kd.R_slice hE
    have hEl := Kd.R_lt hE
    have hSl := Kd.S_lt hS
    obtain ⟨W1, hW1⟩ : ∃ W1 : World, W1 = w.alloc (.cells #[.int .i64 5, .string bx, .int .i64 u, .int .i64 f, .string to_, .string tx] 40) := ⟨_, rfl⟩
    have hX1 : Blk W1 w.heap.size [.int .i64 5, .string bx, .int .i64 u, .int .i64 f, .string to_, .string tx] := by rw [hW1]; exact Blk.made w _ _
    have hXT : W1.heap[w.heap.size]? = some (.cells #[.int .i64 5, .string bx, .int .i64 u, .int .i64 f, .string to_, .string tx] 40 (0, 0)) := by rw [hW1]; show (w.heap.push _)[w.heap.size]? = _; rw [Array.getElem?_push_size]
    have hb1 : Below w.heap.size w W1 := by rw [hW1]; exact (by repeat (first | exact Below.refl _ _ | apply below_alloc | apply pw_below_drewN | apply below_drew1 | (refine Below.setCell ?_ (by first | (simp; done) | (simp; omega) | omega) _) ))
    have hk1 := hk.below hb1 hpb
    have hz1 : W1.heap.size = w.heap.size + 1 := by rw [hW1]; simp
    have hC1 := Kd.C_below hC hb1
    have HF := fun W hr => find_calls A c bs bx W hr
    have d0 := cell_drew' (hk1.at 0 _ rfl)
    have d1 := cell_drew' (hX1.at 1 _ rfl)
    replace hW1 := Lib.hid hW1
    simp only [hfi] at HF
    clear hfi
    replace HF := Lib.hid HF
    go_enter Tryd.func55, Tryd.ntmps55
    go_wp2_with fail
    rw [← hW1.out]
    go_region_held3 (fun w' => w'.cell? ⟨pb, 0, none⟩ = some (.slice A bs.length c) ∧ w'.cell? ⟨w.heap.size, 1, none⟩ = some (.string bx)) (first | exact ⟨d0, d1⟩ | exact ⟨k0, k1⟩ | go_keep) ((go_at_call 47; refine (HF.out _ (Kd.C_below hC1 (by repeat (first | exact Below.refl _ _ | apply below_alloc | apply pw_below_drewN | apply below_drew1 | (refine Below.setCell ?_ (by first | (simp; done) | (simp; omega) | omega) _) )))).mono ?_; rintro e w5 ⟨rfl, hb5⟩; have k0 := (hb5.cell (lt_of_cell' d0)).trans d0; have k1 := (hb5.cell (lt_of_cell' d1)).trans d1))
    have hb6 : Below W1.heap.size W1 w5 := Below.trans (show Below W1.heap.size W1 W1.drew from (by repeat (first | exact Below.refl _ _ | apply below_alloc | apply pw_below_drewN | apply below_drew1 | (refine Below.setCell ?_ (by first | (simp; done) | (simp; omega) | omega) _) ))) (hb5.mono (by simp))
    have hz5 := hb6.size
    have hX5 := hX1.below hb6 (by omega)
    have hXT5 := (hb6.block w.heap.size (by omega)).trans hXT
    clear hXT
    have hk5 := hk1.below hb6 (by omega)
    have hS5 := Kd.S_below (Kd.S_below hS hb1) hb6
    have hE5 := Kd.R_below (Kd.R_below hE hb1) hb6
    have hB5 := (hb1.mono hbase).trans (hb6.mono (by omega))
    clear hX1 hk1 hC1 hb5 d0 d1 k0 k1 hk hS hE hC
    have m0 := hk5.at 0 _ rfl
    have m1 := hk5.at 1 _ rfl
    have x0 := hX5.at 0 _ rfl
    have x1 := hX5.at 1 _ rfl
    have x2 := hX5.at 2 _ rfl
    have x3 := hX5.at 3 _ rfl
    have x4 := hX5.at 4 _ rfl
    have x5 := hX5.at 5 _ rfl
    obtain ⟨g, cap, hAc, hgb, hgl, cells, hgc⟩ := Kd.S_form hS5 (by omega)
    injection hAc with hAc1 _ hAc2
    subst hAc1
    subst hAc2
    obtain ⟨oki, vM, y0, y1, y2, f1, f2, hR, hoki, hH⟩ := box_lend hS5 hi hb
    obtain ⟨Am, cm, rfl⟩ := Kd.R_slice hR
    have hng : g ≠ pb := fun he => (Kd.S_R hS5).1 g (by simp [Value.ownBlock]) he
    have hng2 : pb ≠ g := Ne.symm hng
    have hgx : g < w.heap.size := hSl g (by simp [Value.ownBlock])
    have ea : (⟨g, 0, none⟩ : Addr).add (i * 3) = ⟨g, i * 3, none⟩ := add_plain _ _
    have hgo : some g ≠ (Value.slice Am l.length cm).ownBlock := fun he => (hoki g (hR.1 g he.symm)).2 rfl
    have hpo : some pb ≠ (Value.slice Am l.length cm).ownBlock := fun he => (hoki pb (hR.1 pb he.symm)).1 rfl
    have HI := indexU_calls u w.heap.size Am cm l (fun m => decide (m.uid = u)) w5 (Kd.R_reads' hR).2.2 rfl x2 (by omega)
    rw [hfk] at HI
    replace HI := Lib.hid HI
    clear hfk
    obtain ⟨gm, cm', hAm, hmb, hml, mc, hmt⟩ := Kd.R_form hR (by omega)
    injection hAm with hAm1 _ hAm2
    subst hAm1
    subst hAm2
    have hst5 : StB w5 base pb bs es := ⟨_, _, hk5, hp, hS5, hE5⟩
    go_wp2_with fail
    refine HI.out.mono ?_
    rintro e w6 ⟨rfl, hb7⟩
    have hz6 := hb7.size
    have hk6 := hk5.below hb7 (by omega)
    have hX6 := hX5.below hb7 (by omega)
    have hR6 := Kd.R_below hR hb7
    have hst6 := hst5.new hb7
    have hB6 := hB5.trans (hb7.mono (by omega))
    have hCw := Kd.C_below (Kd.S_reads' hS5).2.2 hb7
    have d0 := cell_drew' (hk6.at 0 _ rfl)
    have d1 := cell_drew' (hX6.at 4 _ rfl)
    have v0 := hX6.at 0 _ rfl
    have HF2 := fun W hr => find_calls (some ⟨g, 0, none⟩) c bs to_ W hr
    rw [hz] at HF2
    replace HF2 := Lib.hid HF2
    have y2' := (hb7.cell (p := ⟨g, i * 3 + 2, none⟩) hgl).trans y2
    obtain ⟨r0, r1, r2⟩ := row_at hR6 hj hm
    have e2 : (⟨gm, 0, none⟩ : Addr).add (j * 3) = ⟨gm, j * 3, none⟩ := add_plain _ _
    clear hz hR hH hS5 hE5 hst5 hXT5 hmt hgc
    go_wp2_with fail
    go_region_held3 (fun w' => w'.cell? ⟨pb, 0, none⟩ = some (.slice (some ⟨g, 0, none⟩) bs.length c) ∧ w'.cell? ⟨w.heap.size, 4, none⟩ = some (.string to_)) (first | exact ⟨d0, d1⟩ | exact ⟨k0, k1⟩ | go_keep) ((go_at_call 47; refine (HF2.out _ (Kd.C_below hCw (by repeat (first | exact Below.refl _ _ | apply below_alloc | apply pw_below_drewN | apply below_drew1 | (refine Below.setCell ?_ (by first | (simp; done) | (simp; omega) | omega) _) )))).mono ?_; rintro e w7 ⟨rfl, hb8⟩; have k0 := (hb8.cell (lt_of_cell' d0)).trans d0; have k1 := (hb8.cell (lt_of_cell' d1)).trans d1))
    have hb9 : Below w6.heap.size w6 w7 := Below.trans (show Below w6.heap.size w6 w6.drew from (by repeat (first | exact Below.refl _ _ | apply below_alloc | apply pw_below_drewN | apply below_drew1 | (refine Below.setCell ?_ (by first | (simp; done) | (simp; omega) | omega) _) ))) (hb8.mono (by simp))
    have hst7 := hst6.new hb9
    have hB7 := hB6.trans (hb9.mono (by omega))
    have hz7 := hb9.size
    go_wp2_with fail
    go_ret
    exact ⟨(by first | rfl | (simp; done) | (simp [*]; done) | (rw [if_pos (by omega)]; first | rfl | (simp; done)) | (rw [if_neg (by omega)]; first | rfl | (simp; done)) | (simp; omega)), hst7, hB7⟩
  · rw [if_neg hneg]
    obtain ⟨t, hz, ht⟩ : ∃ t : Nat, findG to_ bs 0 = (t : Int) ∧ t < bs.length := by
      rcases findG_lt (nm := to_) bs 0 with h1 | h1
      · omega
      · exact ⟨(findG to_ bs 0).toNat, by omega, by omega⟩
    rw [hz, Int.toNat_natCast]
    have hgd : GoodB (nm, nx, l) := by rw [← hb]; exact hinv.2.2 _ (List.getElem_mem hi)
    have hmm := mails_mem _ _ hgd.2.2.2.2 m (hm ▸ List.getElem_mem hj)
    have HA := Lib.hid (fun W h => add_calls pb t m.flags m.text base bs es W h hinv ht hmm.2.2.2.2)
    have t0 : ¬ (t : Int) < 0 := by omega
    clear hneg hgd hmm
    skip
    obtain ⟨vB, vS, hk, hp, hS, hE⟩ := h
    obtain ⟨A, c, rfl, hc, hC⟩ := Kd.S_reads hS
    obtain ⟨A3, c3, rfl⟩ := Kd.R_slice hE
    have hEl := Kd.R_lt hE
    have hSl := Kd.S_lt hS
    obtain ⟨W1, hW1⟩ : ∃ W1 : World, W1 = w.alloc (.cells #[.int .i64 5, .string bx, .int .i64 u, .int .i64 f, .string to_, .string tx] 40) := ⟨_, rfl⟩
    have hX1 : Blk W1 w.heap.size [.int .i64 5, .string bx, .int .i64 u, .int .i64 f, .string to_, .string tx] := by rw [hW1]; exact Blk.made w _ _
    have hXT : W1.heap[w.heap.size]? = some (.cells #[.int .i64 5, .string bx, .int .i64 u, .int .i64 f, .string to_, .string tx] 40 (0, 0)) := by rw [hW1]; show (w.heap.push _)[w.heap.size]? = _; rw [Array.getElem?_push_size]
    have hb1 : Below w.heap.size w W1 := by rw [hW1]; exact (by repeat (first | exact Below.refl _ _ | apply below_alloc | apply pw_below_drewN | apply below_drew1 | (refine Below.setCell ?_ (by first | (simp; done) | (simp; omega) | omega) _) ))
    have hk1 := hk.below hb1 hpb
    have hz1 : W1.heap.size = w.heap.size + 1 := by rw [hW1]; simp
    have hC1 := Kd.C_below hC hb1
    have HF := fun W hr => find_calls A c bs bx W hr
    have d0 := cell_drew' (hk1.at 0 _ rfl)
    have d1 := cell_drew' (hX1.at 1 _ rfl)
    replace hW1 := Lib.hid hW1
    simp only [hfi] at HF
    clear hfi
    replace HF := Lib.hid HF
    go_enter Tryd.func55, Tryd.ntmps55
    go_wp2_with fail
    rw [← hW1.out]
    go_region_held3 (fun w' => w'.cell? ⟨pb, 0, none⟩ = some (.slice A bs.length c) ∧ w'.cell? ⟨w.heap.size, 1, none⟩ = some (.string bx)) (first | exact ⟨d0, d1⟩ | exact ⟨k0, k1⟩ | go_keep) ((go_at_call 47; refine (HF.out _ (Kd.C_below hC1 (by repeat (first | exact Below.refl _ _ | apply below_alloc | apply pw_below_drewN | apply below_drew1 | (refine Below.setCell ?_ (by first | (simp; done) | (simp; omega) | omega) _) )))).mono ?_; rintro e w5 ⟨rfl, hb5⟩; have k0 := (hb5.cell (lt_of_cell' d0)).trans d0; have k1 := (hb5.cell (lt_of_cell' d1)).trans d1))
    have hb6 : Below W1.heap.size W1 w5 := Below.trans (show Below W1.heap.size W1 W1.drew from (by repeat (first | exact Below.refl _ _ | apply below_alloc | apply pw_below_drewN | apply below_drew1 | (refine Below.setCell ?_ (by first | (simp; done) | (simp; omega) | omega) _) ))) (hb5.mono (by simp))
    have hz5 := hb6.size
    have hX5 := hX1.below hb6 (by omega)
    have hXT5 := (hb6.block w.heap.size (by omega)).trans hXT
    clear hXT
    have hk5 := hk1.below hb6 (by omega)
    have hS5 := Kd.S_below (Kd.S_below hS hb1) hb6
    have hE5 := Kd.R_below (Kd.R_below hE hb1) hb6
    have hB5 := (hb1.mono hbase).trans (hb6.mono (by omega))
    clear hX1 hk1 hC1 hb5 d0 d1 k0 k1 hk hS hE hC
    have m0 := hk5.at 0 _ rfl
    have m1 := hk5.at 1 _ rfl
    have x0 := hX5.at 0 _ rfl
    have x1 := hX5.at 1 _ rfl
    have x2 := hX5.at 2 _ rfl
    have x3 := hX5.at 3 _ rfl
    have x4 := hX5.at 4 _ rfl
    have x5 := hX5.at 5 _ rfl
    obtain ⟨g, cap, hAc, hgb, hgl, cells, hgc⟩ := Kd.S_form hS5 (by omega)
    injection hAc with hAc1 _ hAc2
    subst hAc1
    subst hAc2
    obtain ⟨oki, vM, y0, y1, y2, f1, f2, hR, hoki, hH⟩ := box_lend hS5 hi hb
    obtain ⟨Am, cm, rfl⟩ := Kd.R_slice hR
    have hng : g ≠ pb := fun he => (Kd.S_R hS5).1 g (by simp [Value.ownBlock]) he
    have hng2 : pb ≠ g := Ne.symm hng
    have hgx : g < w.heap.size := hSl g (by simp [Value.ownBlock])
    have ea : (⟨g, 0, none⟩ : Addr).add (i * 3) = ⟨g, i * 3, none⟩ := add_plain _ _
    have hgo : some g ≠ (Value.slice Am l.length cm).ownBlock := fun he => (hoki g (hR.1 g he.symm)).2 rfl
    have hpo : some pb ≠ (Value.slice Am l.length cm).ownBlock := fun he => (hoki pb (hR.1 pb he.symm)).1 rfl
    have HI := indexU_calls u w.heap.size Am cm l (fun m => decide (m.uid = u)) w5 (Kd.R_reads' hR).2.2 rfl x2 (by omega)
    rw [hfk] at HI
    replace HI := Lib.hid HI
    clear hfk
    obtain ⟨gm, cm', hAm, hmb, hml, mc, hmt⟩ := Kd.R_form hR (by omega)
    injection hAm with hAm1 _ hAm2
    subst hAm1
    subst hAm2
    have hst5 : StB w5 base pb bs es := ⟨_, _, hk5, hp, hS5, hE5⟩
    go_wp2_with fail
    refine HI.out.mono ?_
    rintro e w6 ⟨rfl, hb7⟩
    have hz6 := hb7.size
    have hk6 := hk5.below hb7 (by omega)
    have hX6 := hX5.below hb7 (by omega)
    have hR6 := Kd.R_below hR hb7
    have hst6 := hst5.new hb7
    have hB6 := hB5.trans (hb7.mono (by omega))
    have hCw := Kd.C_below (Kd.S_reads' hS5).2.2 hb7
    have d0 := cell_drew' (hk6.at 0 _ rfl)
    have d1 := cell_drew' (hX6.at 4 _ rfl)
    have v0 := hX6.at 0 _ rfl
    have HF2 := fun W hr => find_calls (some ⟨g, 0, none⟩) c bs to_ W hr
    rw [hz] at HF2
    replace HF2 := Lib.hid HF2
    have y2' := (hb7.cell (p := ⟨g, i * 3 + 2, none⟩) hgl).trans y2
    obtain ⟨r0, r1, r2⟩ := row_at hR6 hj hm
    have e2 : (⟨gm, 0, none⟩ : Addr).add (j * 3) = ⟨gm, j * 3, none⟩ := add_plain _ _
    clear hz hR hH hS5 hE5 hst5 hXT5 hmt hgc
    go_wp2_with fail
    go_region_held3 (fun w' => w'.cell? ⟨pb, 0, none⟩ = some (.slice (some ⟨g, 0, none⟩) bs.length c) ∧ w'.cell? ⟨w.heap.size, 4, none⟩ = some (.string to_)) (first | exact ⟨d0, d1⟩ | exact ⟨k0, k1⟩ | go_keep) ((go_at_call 47; refine (HF2.out _ (Kd.C_below hCw (by repeat (first | exact Below.refl _ _ | apply below_alloc | apply pw_below_drewN | apply below_drew1 | (refine Below.setCell ?_ (by first | (simp; done) | (simp; omega) | omega) _) )))).mono ?_; rintro e w7 ⟨rfl, hb8⟩; have k0 := (hb8.cell (lt_of_cell' d0)).trans d0; have k1 := (hb8.cell (lt_of_cell' d1)).trans d1))
    have hb9 : Below w6.heap.size w6 w7 := Below.trans (show Below w6.heap.size w6 w6.drew from (by repeat (first | exact Below.refl _ _ | apply below_alloc | apply pw_below_drewN | apply below_drew1 | (refine Below.setCell ?_ (by first | (simp; done) | (simp; omega) | omega) _) ))) (hb8.mono (by simp))
    have hst7 := hst6.new hb9
    have hB7 := hB6.trans (hb9.mono (by omega))
    have hz7 := hb9.size
    have y2'' := (hb9.cell (p := ⟨g, i * 3 + 2, none⟩) (by show g < _; omega)).trans y2'
    have r0' := (hb9.cell (p := ⟨gm, j * 3, none⟩) (by show gm < _; omega)).trans r0
    have r1' := (hb9.cell (p := ⟨gm, j * 3 + 1, none⟩) (by show gm < _; omega)).trans r1
    have r2' := (hb9.cell (p := ⟨gm, j * 3 + 2, none⟩) (by show gm < _; omega)).trans r2
    have hst8 := hst7.new (show Below w7.heap.size w7 (w7.alloc (.cells #[.int .i64 m.uid, .int .i64 m.flags, .string m.text] 84)) from (by repeat (first | exact Below.refl _ _ | apply below_alloc | apply pw_below_drewN | apply below_drew1 | (refine Below.setCell ?_ (by first | (simp; done) | (simp; omega) | omega) _) )))
    have hB8 : Below base w (w7.alloc (.cells #[.int .i64 m.uid, .int .i64 m.flags, .string m.text] 84)) := below_alloc' hB7 (by omega) _
    go_wp2_with fail
    refine (HA.out _ hst8).mono ?_
    rintro e w9 ⟨rfl, hst9, hb10⟩
    go_wp2_with fail
    go_ret
    exact ⟨(by first | rfl | (simp; done) | (simp [*]; done) | (rw [if_pos (by omega)]; first | rfl | (simp; done)) | (rw [if_neg (by omega)]; first | rfl | (simp; done)) | (simp; omega)), hst9, hB8.trans hb10⟩
theorem apply_calls (pb : Nat) (x : AEntry) (base : Nat) (bs : List ABox) (es : List AEntry) (w : World) (h : StB w base pb bs es) (hinv : InvS bs es) (hx : entryFault x = 0) :
    Calls Tryd.prog 55 #[.pointer (some ⟨pb, 0, none⟩), .agg #[.int .i64 x.kind, .string x.box, .int .i64 x.uid, .int .i64 x.flags, .string x.to_, .string x.text]] w fun e w' => e = .returned (.int .i64 (entV bs es x).1) ∧ StB w' base pb (entV bs es x).2.1 (entV bs es x).2.2 ∧ Below base w w' := by
  obtain ⟨a1, a2, a3, a4, a5, _⟩ := ef_ok hx
  obtain ⟨k, bx, u, f, to_, tx⟩ := x
  simp only at a1 a2 a3 a4 a5 ⊢
  clear hx
  rcases (by omega : k = 6 ∨ k = 1 ∨ k = 2 ∨ k = 3 ∨ k = 4 ∨ k = 5) with rfl | rfl | hk
  · exact apply_spool pb bx u f to_ tx base bs es w h hinv
  · exact apply_create pb bx u f to_ tx base bs es w h hinv
  · by_cases hf : findG bx bs 0 < 0
    · exact apply_none pb k bx u f to_ tx base bs es w h (by omega) (by omega) hf
    · obtain ⟨i, hfi, hi⟩ : ∃ i : Nat, findG bx bs 0 = (i : Int) ∧ i < bs.length := by
        rcases findG_lt (nm := bx) bs 0 with h1 | h1
        · omega
        · exact ⟨(findG bx bs 0).toNat, by omega, by omega⟩
      by_cases hk2 : k = 2
      · subst hk2; exact apply_append pb i bx u f to_ tx base bs es w h hinv a5 hfi hi
      · by_cases hk4 : k = 4
        · subst hk4; exact apply_expunge pb i bx u f to_ tx base bs es w h hinv hfi hi
        · by_cases hu : findU u (mailsAt bs i) 0 < 0
          · exact apply_miss pb i k bx u f to_ tx base bs es w h (by omega) hfi hi hu
          · obtain ⟨j, hfj, hj⟩ : ∃ j : Nat, findU u (mailsAt bs i) 0 = (j : Int) ∧ j < (mailsAt bs i).length := by
              rcases findU_lt (u := u) (mailsAt bs i) 0 with h1 | h1
              · omega
              · exact ⟨(findU u (mailsAt bs i) 0).toNat, by omega, by omega⟩
            rcases (by omega : k = 3 ∨ k = 5) with rfl | rfl
            · exact apply_flag pb i j bx u f to_ tx base bs es w h hfi hi hfj hj
            · exact apply_copy pb i j bx u f to_ tx base bs es w h hinv hfi hi hfj hj
end Go.Proofs.YtijdghplfhfpaaaDoor.H
