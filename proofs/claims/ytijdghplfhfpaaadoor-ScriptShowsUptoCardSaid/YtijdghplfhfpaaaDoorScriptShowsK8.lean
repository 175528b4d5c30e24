/- The claim ScriptShowsUptoCardSaid, part 8 of 8. -/
import Derived.Test.YtijdghplfhfpaaaDoorScriptShowsK3
import Derived.Deep.QuietTactic
import Derived.BigQuiet
import Derived.Test.YtijdghplfhfpaaaDoorScriptShowsK4
import Derived.Test.YtijdghplfhfpaaaDoorCards
import Derived.Test.YtijdghplfhfpaaaDoorTie
import Derived.Test.YtijdghplfhfpaaaDoorScriptShowsK1
import Derived.WalkKit
import Derived.ProofKit
import Derived.OpenShut
import Derived.ShutString
import Derived.ChangeOld
import Derived.Below
import Derived.Carry
import Derived.SevenTiedAt
import Derived.Test.YtijdghplfhfpaaaDoorScriptShowsK7
import Derived.Shelf.Vars
/- Scripts: the sameness of tests: of a test with itself, wherever it lies. -/
namespace Go.Proofs.YtijdghplfhfpaaaDoor.H
open Go.RowKit Go.Proofs.YtijdghplfhfpaaaDoorW.PrintWords Go.Proofs.YtijdghplfhfpaaaDoorW.PrintLast Go.Proofs.YtijdghplfhfpaaaDoor.U
set_option linter.unusedVariables false
set_option linter.unusedSimpArgs false
set_option maxHeartbeats 1000000 in
set_option maxRecDepth 100000 in
theorem sameTexts_calls (A : Option Addr) (c : Nat) (A2 : Option Addr) (c2 : Nat) (l : List ByteArray) (w : World) (hr : Kd.C Kd.string w A l.length l) (hr2 : Kd.C Kd.string w A2 l.length l) :
    Calls Tryd.prog 119 #[.slice A l.length c, .slice A2 l.length c2] w fun e w' => e = .returned (.bool true) ∧ Below w.heap.size w w' := by
  have h63 := hr.2.1
  go_enter Tryd.func119, Tryd.ntmps119
  go_wp2
  go_loopw [5] (fun i wr => ∃ k : Nat, k ≤ l.length ∧ i = .int .i64 k ∧ ∃ q, wr = w.drewN q) (fun i _ => l.length - (intOf i).toNat)
  case atStart => exact ⟨0, Nat.zero_le _, rfl, 0, rfl⟩
  case round =>
    obtain ⟨k, hk, rfl, q, rfl⟩ := hrel
    by_cases hlt : k < l.length
    · obtain ⟨ad, e1, q0⟩ := string_at hr k hlt
      obtain ⟨ad2, e2, r0⟩ := string_at hr2 k hlt
      subst e1 e2
      generalize l[k] = x at *
      have i0 : (0 : Int) ≤ (k : Int) := by omega
      have i1 : (k : Int) < (l.length : Int) := by omega
      go_wp2
      go_quiet (fail)
      go_wp2
      go_roundw
      case rel => exact ⟨k + 1, by omega, by go_num, _, rfl⟩
      case measure => simp [intOf]; omega
    · obtain rfl : k = l.length := by omega
      go_wp2
      go_ret
      exact ⟨rfl, by first | exact Below.refl _ _ | exact pw_below_drewN (Below.refl _ _) _⟩
def SmT (n : Nat) : Prop := ∀ (t : TestN n) (cs cs2 : List Value) (w : World), (kTest n).K w t cs → (kTest n).K w t cs2 →
  Calls Tryd.prog 120 #[.agg cs.toArray, .agg cs2.toArray] w fun e w' => e = .returned (.bool true) ∧ Below w.heap.size w w'
set_option maxHeartbeats 2000000 in
set_option maxRecDepth 100000 in
theorem sameTest_step (n : Nat) (IH : SmT n) : SmT (n + 1) := by
  intro t cs cs2 w hK hK2
  obtain ⟨A1, c1, A2, c2, A3, c3, rfl, _, hr1, hr2, hr3⟩ := test_K hK
  obtain ⟨E1, b1, E2, b2, E3, b3, rfl, _, he1, he2, he3⟩ := test_K hK2
  obtain ⟨kd, mt, pt, nm, ks, ov, lm, ts⟩ := t
  simp only at hr1 hr2 hr3 he1 he2 he3 ⊢
  clear hK hK2
  have h63 := hr3.2.1
  have HN := Lib.hid (fun w hr hr2 => sameTexts_calls A1 c1 E1 b1 nm w hr hr2)
  have HS := Lib.hid (fun w hr hr2 => sameTexts_calls A2 c2 E2 b2 ks w hr hr2)
  replace IH := Lib.hid IH
  have R1 := Lib.hid (And.intro hr1 he1)
  have R2 := Lib.hid (And.intro hr2 he2)
  have R3 := Lib.hid (And.intro hr3 he3)
  clear hr1 hr2 hr3 he1 he2 he3
  have hP : Blk ((w.alloc (.cells #[.int .i64 kd, .int .i64 mt, .int .i64 pt, .slice A1 nm.length c1, .slice A2 ks.length c2, .bool ov, .int .i64 lm, .slice A3 ts.length c3] 107)).alloc (.cells #[.int .i64 kd, .int .i64 mt, .int .i64 pt, .slice E1 nm.length b1, .slice E2 ks.length b2, .bool ov, .int .i64 lm, .slice E3 ts.length b3] 107)) w.heap.size [.int .i64 kd, .int .i64 mt, .int .i64 pt, .slice A1 nm.length c1, .slice A2 ks.length c2, .bool ov, .int .i64 lm, .slice A3 ts.length c3] := (Blk.made w _ _).alloc _
  have hQ : Blk ((w.alloc (.cells #[.int .i64 kd, .int .i64 mt, .int .i64 pt, .slice A1 nm.length c1, .slice A2 ks.length c2, .bool ov, .int .i64 lm, .slice A3 ts.length c3] 107)).alloc (.cells #[.int .i64 kd, .int .i64 mt, .int .i64 pt, .slice E1 nm.length b1, .slice E2 ks.length b2, .bool ov, .int .i64 lm, .slice E3 ts.length b3] 107)) (w.heap.size + 1) [.int .i64 kd, .int .i64 mt, .int .i64 pt, .slice E1 nm.length b1, .slice E2 ks.length b2, .bool ov, .int .i64 lm, .slice E3 ts.length b3] := Blk.made_at _ _ _ (by simp)
  have hB0 : Below w.heap.size w ((w.alloc (.cells #[.int .i64 kd, .int .i64 mt, .int .i64 pt, .slice A1 nm.length c1, .slice A2 ks.length c2, .bool ov, .int .i64 lm, .slice A3 ts.length c3] 107)).alloc (.cells #[.int .i64 kd, .int .i64 mt, .int .i64 pt, .slice E1 nm.length b1, .slice E2 ks.length b2, .bool ov, .int .i64 lm, .slice E3 ts.length b3] 107)) := (by repeat (first | exact Below.refl _ _ | apply below_alloc | apply pw_below_drewN | apply below_drew1 | (refine Below.setCell ?_ (by first | (simp; done) | (simp; omega) | omega) _) ))
  have p0 := (hP).at 0 _ rfl
  have p1 := (hP).at 1 _ rfl
  have p2 := (hP).at 2 _ rfl
  have p3 := (hP).at 3 _ rfl
  have p4 := (hP).at 4 _ rfl
  have p5 := (hP).at 5 _ rfl
  have p6 := (hP).at 6 _ rfl
  have p7 := (hP).at 7 _ rfl
  have q0 := (hQ).at 0 _ rfl
  have q1 := (hQ).at 1 _ rfl
  have q2 := (hQ).at 2 _ rfl
  have q3 := (hQ).at 3 _ rfl
  have q4 := (hQ).at 4 _ rfl
  have q5 := (hQ).at 5 _ rfl
  have q6 := (hQ).at 6 _ rfl
  have q7 := (hQ).at 7 _ rfl
  go_enter Tryd.func120, Tryd.ntmps120
  go_wp2_with fail
  refine (HN.out _ (Kd.C_below R1.out.1 hB0) (Kd.C_below R1.out.2 hB0)).mono ?_
  rintro e w1 ⟨rfl, hb1⟩
  have hP1 := hP.below hb1 hP.lt
  have hQ1 := hQ.below hb1 hQ.lt
  have hB1 : Below w.heap.size w w1 := hB0.trans (hb1.mono hB0.size)
  clear hP hQ hB0 hb1 p0 p1 p2 p3 p4 p5 p6 p7 q0 q1 q2 q3 q4 q5 q6 q7
  have p4 := hP1.at 4 _ rfl
  have q4 := hQ1.at 4 _ rfl
  go_wp2_with fail
  refine (HS.out _ (Kd.C_below R2.out.1 hB1) (Kd.C_below R2.out.2 hB1)).mono ?_
  rintro e w2 ⟨rfl, hb2⟩
  have hP2 := hP1.below hb2 hP1.lt
  have hQ2 := hQ1.below hb2 hQ1.lt
  have hB2 : Below w.heap.size w w2 := hB1.trans (hb2.mono hB1.size)
  clear hP1 hQ1 hB1 hb2 p4 q4
  have p7 := hP2.at 7 _ rfl
  have q7 := hQ2.at 7 _ rfl
  have pl := hP2.lt
  have ql := hQ2.lt
  go_wp2_with fail
  go_loopw [5] (fun i wr => ∃ k : Nat, k ≤ ts.length ∧ i = .int .i64 k ∧ Below w2.heap.size w2 wr) (fun i _ => ts.length - (intOf i).toNat)
  case atStart => exact ⟨0, Nat.zero_le _, rfl, Below.refl _ _⟩
  case round =>
    clear p7 q7
    obtain ⟨k, hk, rfl, hB⟩ := hrel
    have hP3 := hP2.below hB pl
    have hQ3 := hQ2.below hB ql
    have hB3 : Below w.heap.size w wr := hB2.trans (hB.mono hB2.size)
    have p7 := hP3.at 7 _ rfl
    have q7 := hQ3.at 7 _ rfl
    by_cases hlt : k < ts.length
    · obtain ⟨ad, cx, e1, hKx, hx0, hxj⟩ := elem_at R3.out.1 (kTest_sz n) k hlt
      obtain ⟨ad2, cy, e2, hKy, hy0, hyj⟩ := elem_at R3.out.2 (kTest_sz n) k hlt
      subst e1 e2
      obtain ⟨x0, x1, x2, X3, l3, C3, X4, l4, C4, x5, x6, X7, l7, C7, rfl⟩ := testN_K hKx
      obtain ⟨y0, y1, y2, Y3, m3, D3, Y4, m4, D4, y5, y6, Y7, m7, D7, rfl⟩ := testN_K hKy
      have q0 := hx0 _ rfl; have q1 := hxj 1 _ (by decide) rfl; have q2 := hxj 2 _ (by decide) rfl; have q3 := hxj 3 _ (by decide) rfl; have q4 := hxj 4 _ (by decide) rfl; have q5 := hxj 5 _ (by decide) rfl; have q6 := hxj 6 _ (by decide) rfl; have q7 := hxj 7 _ (by decide) rfl
      have r0 := hy0 _ rfl; have r1 := hyj 1 _ (by decide) rfl; have r2 := hyj 2 _ (by decide) rfl; have r3 := hyj 3 _ (by decide) rfl; have r4 := hyj 4 _ (by decide) rfl; have r5 := hyj 5 _ (by decide) rfl; have r6 := hyj 6 _ (by decide) rfl; have r7 := hyj 7 _ (by decide) rfl
      clear hx0 hxj hy0 hyj
      have FF := Lib.hid (fun (W : World) (h : Below w.heap.size w W) => And.intro (pw_cell_below h q0) (And.intro (pw_cell_below h q1) (And.intro (pw_cell_below h q2) (And.intro (pw_cell_below h q3) (And.intro (pw_cell_below h q4) (And.intro (pw_cell_below h q5) (And.intro (pw_cell_below h q6) (And.intro (pw_cell_below h q7) (And.intro (pw_cell_below h r0) (And.intro (pw_cell_below h r1) (And.intro (pw_cell_below h r2) (And.intro (pw_cell_below h r3) (And.intro (pw_cell_below h r4) (And.intro (pw_cell_below h r5) (And.intro (pw_cell_below h r6) (pw_cell_below h r7))))))))))))))))
      clear q0 q1 q2 q3 q4 q5 q6 q7 r0 r1 r2 r3 r4 r5 r6 r7
      have HX := Lib.hid (fun W (h : Below w.heap.size w W) => IH.out ts[k] _ _ W ((kTest n).K_below h hKx) ((kTest n).K_below h hKy))
      generalize ts[k] = z at *
      clear hKx hKy
      have q7 := hQ3.at 7 _ rfl
      have i0 : (0 : Int) ≤ (k : Int) := by omega
      have i1 : (k : Int) < (ts.length : Int) := by omega
      go_wp2_with fail
      have hBd : Below w.heap.size w wr.drew := below_drew1 hB3
      have hBd2 : Below w2.heap.size w2 wr.drew := below_drew1 hB
      have hPd := hP3.drew
      have hQd := hQ3.drew
      refine wp_region_held_drew (S := fun w' => w'.cell? ⟨w.heap.size, 7, none⟩ = some (.slice (some ad) ts.length c3) ∧ w'.cell? ⟨w.heap.size + 1, 7, none⟩ = some (.slice (some ad2) ts.length b3) ∧ w'.cell? (ad.add (k * 8)) = some (.int .i64 x0) ∧ w'.cell? ⟨(ad.add (k * 8)).block, (ad.add (k * 8)).off + 1, none⟩ = some (.int .i64 x1) ∧ w'.cell? ⟨(ad.add (k * 8)).block, (ad.add (k * 8)).off + 2, none⟩ = some (.int .i64 x2) ∧ w'.cell? ⟨(ad.add (k * 8)).block, (ad.add (k * 8)).off + 3, none⟩ = some (.slice X3 l3 C3) ∧ w'.cell? ⟨(ad.add (k * 8)).block, (ad.add (k * 8)).off + 4, none⟩ = some (.slice X4 l4 C4) ∧ w'.cell? ⟨(ad.add (k * 8)).block, (ad.add (k * 8)).off + 5, none⟩ = some (.bool x5) ∧ w'.cell? ⟨(ad.add (k * 8)).block, (ad.add (k * 8)).off + 6, none⟩ = some (.int .i64 x6) ∧ w'.cell? ⟨(ad.add (k * 8)).block, (ad.add (k * 8)).off + 7, none⟩ = some (.slice X7 l7 C7) ∧ w'.cell? (ad2.add (k * 8)) = some (.int .i64 y0) ∧ w'.cell? ⟨(ad2.add (k * 8)).block, (ad2.add (k * 8)).off + 1, none⟩ = some (.int .i64 y1) ∧ w'.cell? ⟨(ad2.add (k * 8)).block, (ad2.add (k * 8)).off + 2, none⟩ = some (.int .i64 y2) ∧ w'.cell? ⟨(ad2.add (k * 8)).block, (ad2.add (k * 8)).off + 3, none⟩ = some (.slice Y3 m3 D3) ∧ w'.cell? ⟨(ad2.add (k * 8)).block, (ad2.add (k * 8)).off + 4, none⟩ = some (.slice Y4 m4 D4) ∧ w'.cell? ⟨(ad2.add (k * 8)).block, (ad2.add (k * 8)).off + 5, none⟩ = some (.bool y5) ∧ w'.cell? ⟨(ad2.add (k * 8)).block, (ad2.add (k * 8)).off + 6, none⟩ = some (.int .i64 y6) ∧ w'.cell? ⟨(ad2.add (k * 8)).block, (ad2.add (k * 8)).off + 7, none⟩ = some (.slice Y7 m7 D7)) (by kernel_rfl) ?_ (fun hHeld => ?_)
      · exact ⟨hPd.at 7 _ rfl, hQd.at 7 _ rfl, FF.out _ hBd⟩
      generalize wr.drew = V at *
      refine wpAnyH_take (i := 0) (oi := { dst := some 71, op := _, type := _, pos := _, after := _, guard := _ }) (v := .pointer (some ⟨w.heap.size, 7, none⟩)) rfl (by kernel_rfl) (by kernel_rfl) (by kernel_rfl) (fun _ _ _ h => h) (Or.inl ⟨by rfl, by (intro w hSw; (try dsimp only at hSw); first | (go_simp; done) | (go_simp; with_reducible rfl) | (go_simp; omega) | (go_simp; simp [*]; done))⟩) (by assumption) ?_; try simp only [Act.put, List.setIfInBounds_toArray, List.set_cons_zero, List.set_cons_succ]
      refine wpAnyH_take (i := 1) (oi := { dst := some 72, op := _, type := _, pos := _, after := _, guard := _ }) (v := .slice (some ad) ts.length c3) rfl (by kernel_rfl) (by kernel_rfl) (by kernel_rfl) (fun _ _ _ h => h) (Or.inl ⟨by rfl, by (intro w hSw; (try dsimp only at hSw); first | (go_simp; done) | (go_simp; with_reducible rfl) | (go_simp; omega) | (go_simp; simp [*]; done))⟩) (by assumption) ?_; try simp only [Act.put, List.setIfInBounds_toArray, List.set_cons_zero, List.set_cons_succ]
      refine wpAnyH_take (i := 2) (oi := { dst := some 73, op := _, type := _, pos := _, after := _, guard := _ }) (v := .int .i64 k) rfl (by kernel_rfl) (by kernel_rfl) (by kernel_rfl) (fun _ _ _ h => h) (Or.inl ⟨by rfl, by (intro w hSw; (try dsimp only at hSw); first | (go_simp; done) | (go_simp; with_reducible rfl) | (go_simp; omega) | (go_simp; simp [*]; done))⟩) (by assumption) ?_; try simp only [Act.put, List.setIfInBounds_toArray, List.set_cons_zero, List.set_cons_succ]
      refine wpAnyH_take (i := 3) (oi := { dst := some 74, op := _, type := _, pos := _, after := _, guard := _ }) (v := .pointer (some (ad.add (k * 8)))) rfl (by kernel_rfl) (by kernel_rfl) (by kernel_rfl) (fun _ _ _ h => h) (Or.inl ⟨by rfl, by (intro w hSw; (try dsimp only at hSw); first | (go_simp; done) | (go_simp; with_reducible rfl) | (go_simp; omega) | (go_simp; simp [*]; done))⟩) (by assumption) ?_; try simp only [Act.put, List.setIfInBounds_toArray, List.set_cons_zero, List.set_cons_succ]
      refine wpAnyH_take (i := 4) (oi := { dst := some 75, op := _, type := _, pos := _, after := _, guard := _ }) (v := .agg #[.int .i64 x0, .int .i64 x1, .int .i64 x2, .slice X3 l3 C3, .slice X4 l4 C4, .bool x5, .int .i64 x6, .slice X7 l7 C7]) rfl (by kernel_rfl) (by kernel_rfl) (by kernel_rfl) (fun _ _ _ h => h) (Or.inl ⟨by rfl, by (intro w hSw; (try dsimp only at hSw); first | (go_simp; done) | (go_simp; with_reducible rfl) | (go_simp; omega) | (go_simp; simp [*]; done))⟩) (by assumption) ?_; try simp only [Act.put, List.setIfInBounds_toArray, List.set_cons_zero, List.set_cons_succ]
      refine wpAnyH_take (i := 5) (oi := { dst := some 76, op := _, type := _, pos := _, after := _, guard := _ }) (v := .pointer (some ⟨w.heap.size + 1, 7, none⟩)) rfl (by kernel_rfl) (by kernel_rfl) (by kernel_rfl) (fun _ _ _ h => h) (Or.inl ⟨by rfl, by (intro w hSw; (try dsimp only at hSw); first | (go_simp; done) | (go_simp; with_reducible rfl) | (go_simp; omega) | (go_simp; simp [*]; done))⟩) (by assumption) ?_; try simp only [Act.put, List.setIfInBounds_toArray, List.set_cons_zero, List.set_cons_succ]
      refine wpAnyH_take (i := 6) (oi := { dst := some 77, op := _, type := _, pos := _, after := _, guard := _ }) (v := .slice (some ad2) ts.length b3) rfl (by kernel_rfl) (by kernel_rfl) (by kernel_rfl) (fun _ _ _ h => h) (Or.inl ⟨by rfl, by (intro w hSw; (try dsimp only at hSw); first | (go_simp; done) | (go_simp; with_reducible rfl) | (go_simp; omega) | (go_simp; simp [*]; done))⟩) (by assumption) ?_; try simp only [Act.put, List.setIfInBounds_toArray, List.set_cons_zero, List.set_cons_succ]
      refine wpAnyH_take (i := 7) (oi := { dst := some 78, op := _, type := _, pos := _, after := _, guard := _ }) (v := .int .i64 k) rfl (by kernel_rfl) (by kernel_rfl) (by kernel_rfl) (fun _ _ _ h => h) (Or.inl ⟨by rfl, by (intro w hSw; (try dsimp only at hSw); first | (go_simp; done) | (go_simp; with_reducible rfl) | (go_simp; omega) | (go_simp; simp [*]; done))⟩) (by assumption) ?_; try simp only [Act.put, List.setIfInBounds_toArray, List.set_cons_zero, List.set_cons_succ]
      refine wpAnyH_take (i := 8) (oi := { dst := some 79, op := _, type := _, pos := _, after := _, guard := _ }) (v := .pointer (some (ad2.add (k * 8)))) rfl (by kernel_rfl) (by kernel_rfl) (by kernel_rfl) (fun _ _ _ h => h) (Or.inl ⟨by rfl, by (intro w hSw; (try dsimp only at hSw); first | (go_simp; done) | (go_simp; with_reducible rfl) | (go_simp; omega) | (go_simp; simp [*]; done))⟩) (by assumption) ?_; try simp only [Act.put, List.setIfInBounds_toArray, List.set_cons_zero, List.set_cons_succ]
      refine wpAnyH_take (i := 9) (oi := { dst := some 80, op := _, type := _, pos := _, after := _, guard := _ }) (v := .agg #[.int .i64 y0, .int .i64 y1, .int .i64 y2, .slice Y3 m3 D3, .slice Y4 m4 D4, .bool y5, .int .i64 y6, .slice Y7 m7 D7]) rfl (by kernel_rfl) (by kernel_rfl) (by kernel_rfl) (fun _ _ _ h => h) (Or.inl ⟨by rfl, by (intro w hSw; (try dsimp only at hSw); first | (go_simp; done) | (go_simp; with_reducible rfl) | (go_simp; omega) | (go_simp; simp [*]; done))⟩) (by assumption) ?_; try simp only [Act.put, List.setIfInBounds_toArray, List.set_cons_zero, List.set_cons_succ]
      refine wpAnyH_ready (rs := [10]) (by kernel_rfl) (by simp) ?_
      refine AllReadyH.cons (o := { dst := some 81, op := _, type := _, pos := _, after := _, guard := _ }) rfl (fun K hK => ?_) AllReadyH.nil
      go_simp
      go_at_call 120
      refine (HX.out _ hBd).mono ?_
      rintro e w5 ⟨rfl, hb5⟩
      have hB5 : Below w2.heap.size w2 w5 := hBd2.trans (hb5.mono hBd2.size)
      have hP5 := hPd.below hb5 hPd.lt
      have hQ5 := hQd.below hb5 hQd.lt
      have hB5w : Below w.heap.size w w5 := hBd.trans (hb5.mono hBd.size)
      (try simp only [Result.andThen])
      refine hK.out _ _ ⟨hP5.at 7 _ rfl, hQ5.at 7 _ rfl, FF.out _ hB5w⟩ (fun hHeld => ?_)
      clear hK K
      refine wpAnyH_take (i := 11) (oi := { dst := some 82, op := _, type := _, pos := _, after := _, guard := _ }) (v := .bool false) rfl (by kernel_rfl) (by kernel_rfl) (by kernel_rfl) (fun _ _ _ h => h) (Or.inl ⟨by rfl, by (intro w hSw; (try dsimp only at hSw); first | (go_simp; done) | (go_simp; with_reducible rfl) | (go_simp; omega) | (go_simp; simp [*]; done))⟩) (by assumption) ?_; try simp only [Act.put, List.setIfInBounds_toArray, List.set_cons_zero, List.set_cons_succ]
      refine wpAnyH_done (by kernel_rfl) ?_ _
      go_wp2_with fail
      go_roundw
      case rel => exact ⟨k + 1, hlt, by go_num, hB5⟩
      case measure => simp [intOf]; omega
    · obtain rfl : k = ts.length := by omega
      have i1 : ¬ (ts.length : Int) < (ts.length : Int) := by omega
      go_wp2_with fail
      go_ret
      exact ⟨rfl, hB3⟩
theorem sameTest_calls : ∀ n, SmT n
  | 0 => fun t => nomatch t
  | n + 1 => sameTest_step n (sameTest_calls n)
end Go.Proofs.YtijdghplfhfpaaaDoor.H

/- Scripts: the sameness of commands: of a command with itself, wherever it lies. -/
namespace Go.Proofs.YtijdghplfhfpaaaDoor.H
open Go.RowKit Go.Proofs.YtijdghplfhfpaaaDoorW.PrintWords Go.Proofs.YtijdghplfhfpaaaDoorW.PrintLast Go.Proofs.YtijdghplfhfpaaaDoor.U
set_option linter.unusedVariables false
set_option linter.unusedSimpArgs false
def SmC (n : Nat) : Prop := ∀ (x : CmdN n) (cs cs2 : List Value) (w : World), (kCmd n).K w x cs → (kCmd n).K w x cs2 →
  Calls Tryd.prog 75 #[.agg cs.toArray, .agg cs2.toArray] w fun e w' => e = .returned (.bool true) ∧ Below w.heap.size w w'
def SmL (n : Nat) : Prop := ∀ (A : Option Addr) (c : Nat) (A2 : Option Addr) (c2 : Nat) (l : List (CmdN n)) (w : World), (kCmd n).C w A l.length l → (kCmd n).C w A2 l.length l →
  Calls Tryd.prog 37 #[.slice A l.length c, .slice A2 l.length c2] w fun e w' => e = .returned (.bool true) ∧ Below w.heap.size w w'
set_option maxHeartbeats 2000000 in
set_option maxRecDepth 100000 in
theorem sameCommands_of (n : Nat) (IH : SmC n) : SmL n := by
  intro A c A2 c2 l w hr hr2
  have h63 := hr.2.1
  replace IH := Lib.hid IH
  have R3 := Lib.hid (And.intro hr hr2)
  clear hr hr2
  go_enter Tryd.func37, Tryd.ntmps37
  go_wp2_with fail
  go_loopw [5] (fun i wr => ∃ k : Nat, k ≤ l.length ∧ i = .int .i64 k ∧ Below w.heap.size w wr) (fun i _ => l.length - (intOf i).toNat)
  case atStart => exact ⟨0, Nat.zero_le _, rfl, Below.refl _ _⟩
  case round =>
    obtain ⟨k, hk, rfl, hB⟩ := hrel
    by_cases hlt : k < l.length
    · obtain ⟨ad, cx, e1, hKx, hx0, hxj⟩ := elem_at R3.out.1 (kCmd_sz n) k hlt
      obtain ⟨ad2, cy, e2, hKy, hy0, hyj⟩ := elem_at R3.out.2 (kCmd_sz n) k hlt
      subst e1 e2
      obtain ⟨X1, l1, C1, x2, x3, x4, X5, l5, C5, X6, l6, C6, x7, x8, X9, l9, C9, X10, l10, C10, X11, l11, C11, rfl⟩ := cmdN_K hKx
      obtain ⟨Y1, m1, D1, y2, y3, y4, Y5, m5, D5, Y6, m6, D6, y7, y8, Y9, m9, D9, Y10, m10, D10, Y11, m11, D11, rfl⟩ := cmdN_K hKy
      have q0 := hx0 _ rfl; have q1 := hxj 1 _ (by decide) rfl; have q2 := hxj 2 _ (by decide) rfl; have q3 := hxj 3 _ (by decide) rfl; have q4 := hxj 4 _ (by decide) rfl; have q5 := hxj 5 _ (by decide) rfl; have q6 := hxj 6 _ (by decide) rfl; have q7 := hxj 7 _ (by decide) rfl; have q8 := hxj 8 _ (by decide) rfl; have q9 := hxj 9 _ (by decide) rfl; have q10 := hxj 10 _ (by decide) rfl; have q11 := hxj 11 _ (by decide) rfl
      have r0 := hy0 _ rfl; have r1 := hyj 1 _ (by decide) rfl; have r2 := hyj 2 _ (by decide) rfl; have r3 := hyj 3 _ (by decide) rfl; have r4 := hyj 4 _ (by decide) rfl; have r5 := hyj 5 _ (by decide) rfl; have r6 := hyj 6 _ (by decide) rfl; have r7 := hyj 7 _ (by decide) rfl; have r8 := hyj 8 _ (by decide) rfl; have r9 := hyj 9 _ (by decide) rfl; have r10 := hyj 10 _ (by decide) rfl; have r11 := hyj 11 _ (by decide) rfl
      clear hx0 hxj hy0 hyj
      have FF := Lib.hid (fun (W : World) (h : Below w.heap.size w W) => And.intro (pw_cell_below h q0) (And.intro (pw_cell_below h q1) (And.intro (pw_cell_below h q2) (And.intro (pw_cell_below h q3) (And.intro (pw_cell_below h q4) (And.intro (pw_cell_below h q5) (And.intro (pw_cell_below h q6) (And.intro (pw_cell_below h q7) (And.intro (pw_cell_below h q8) (And.intro (pw_cell_below h q9) (And.intro (pw_cell_below h q10) (And.intro (pw_cell_below h q11) (And.intro (pw_cell_below h r0) (And.intro (pw_cell_below h r1) (And.intro (pw_cell_below h r2) (And.intro (pw_cell_below h r3) (And.intro (pw_cell_below h r4) (And.intro (pw_cell_below h r5) (And.intro (pw_cell_below h r6) (And.intro (pw_cell_below h r7) (And.intro (pw_cell_below h r8) (And.intro (pw_cell_below h r9) (And.intro (pw_cell_below h r10) (pw_cell_below h r11))))))))))))))))))))))))
      clear q0 q1 q2 q3 q4 q5 q6 q7 q8 q9 q10 q11 r0 r1 r2 r3 r4 r5 r6 r7 r8 r9 r10 r11
      have HX := Lib.hid (fun W (h : Below w.heap.size w W) => IH.out l[k] _ _ W ((kCmd n).K_below h hKx) ((kCmd n).K_below h hKy))
      generalize kindC n l[k] = kc at *
      generalize l[k] = z at *
      clear hKx hKy
      have i0 : (0 : Int) ≤ (k : Int) := by omega
      have i1 : (k : Int) < (l.length : Int) := by omega
      go_wp2_with fail
      have hBd : Below w.heap.size w wr.drew := below_drew1 hB
      refine wp_region_held_drew (S := fun w' => w'.cell? (ad.add (k * 12)) = some (.int .i64 kc) ∧ w'.cell? ⟨(ad.add (k * 12)).block, (ad.add (k * 12)).off + 1, none⟩ = some (.slice X1 l1 C1) ∧ w'.cell? ⟨(ad.add (k * 12)).block, (ad.add (k * 12)).off + 2, none⟩ = some (.int .i64 x2) ∧ w'.cell? ⟨(ad.add (k * 12)).block, (ad.add (k * 12)).off + 3, none⟩ = some (.int .i64 x3) ∧ w'.cell? ⟨(ad.add (k * 12)).block, (ad.add (k * 12)).off + 4, none⟩ = some (.int .i64 x4) ∧ w'.cell? ⟨(ad.add (k * 12)).block, (ad.add (k * 12)).off + 5, none⟩ = some (.slice X5 l5 C5) ∧ w'.cell? ⟨(ad.add (k * 12)).block, (ad.add (k * 12)).off + 6, none⟩ = some (.slice X6 l6 C6) ∧ w'.cell? ⟨(ad.add (k * 12)).block, (ad.add (k * 12)).off + 7, none⟩ = some (.bool x7) ∧ w'.cell? ⟨(ad.add (k * 12)).block, (ad.add (k * 12)).off + 8, none⟩ = some (.int .i64 x8) ∧ w'.cell? ⟨(ad.add (k * 12)).block, (ad.add (k * 12)).off + 9, none⟩ = some (.slice X9 l9 C9) ∧ w'.cell? ⟨(ad.add (k * 12)).block, (ad.add (k * 12)).off + 10, none⟩ = some (.slice X10 l10 C10) ∧ w'.cell? ⟨(ad.add (k * 12)).block, (ad.add (k * 12)).off + 11, none⟩ = some (.slice X11 l11 C11) ∧ w'.cell? (ad2.add (k * 12)) = some (.int .i64 kc) ∧ w'.cell? ⟨(ad2.add (k * 12)).block, (ad2.add (k * 12)).off + 1, none⟩ = some (.slice Y1 m1 D1) ∧ w'.cell? ⟨(ad2.add (k * 12)).block, (ad2.add (k * 12)).off + 2, none⟩ = some (.int .i64 y2) ∧ w'.cell? ⟨(ad2.add (k * 12)).block, (ad2.add (k * 12)).off + 3, none⟩ = some (.int .i64 y3) ∧ w'.cell? ⟨(ad2.add (k * 12)).block, (ad2.add (k * 12)).off + 4, none⟩ = some (.int .i64 y4) ∧ w'.cell? ⟨(ad2.add (k * 12)).block, (ad2.add (k * 12)).off + 5, none⟩ = some (.slice Y5 m5 D5) ∧ w'.cell? ⟨(ad2.add (k * 12)).block, (ad2.add (k * 12)).off + 6, none⟩ = some (.slice Y6 m6 D6) ∧ w'.cell? ⟨(ad2.add (k * 12)).block, (ad2.add (k * 12)).off + 7, none⟩ = some (.bool y7) ∧ w'.cell? ⟨(ad2.add (k * 12)).block, (ad2.add (k * 12)).off + 8, none⟩ = some (.int .i64 y8) ∧ w'.cell? ⟨(ad2.add (k * 12)).block, (ad2.add (k * 12)).off + 9, none⟩ = some (.slice Y9 m9 D9) ∧ w'.cell? ⟨(ad2.add (k * 12)).block, (ad2.add (k * 12)).off + 10, none⟩ = some (.slice Y10 m10 D10) ∧ w'.cell? ⟨(ad2.add (k * 12)).block, (ad2.add (k * 12)).off + 11, none⟩ = some (.slice Y11 m11 D11)) (by kernel_rfl) ?_ (fun hHeld => ?_)
      · exact FF.out _ hBd
      generalize wr.drew = V at *
      refine wpAnyH_take (i := 0) (oi := { dst := some 17, op := _, type := _, pos := _, after := _, guard := _ }) (v := .slice (some ad) l.length c) rfl (by kernel_rfl) (by kernel_rfl) (by kernel_rfl) (fun _ _ _ h => h) (Or.inl ⟨by rfl, by (intro w hSw; (try dsimp only at hSw); first | (go_simp; done) | (go_simp; with_reducible rfl) | (go_simp; omega) | (go_simp; simp [*]; done))⟩) (by assumption) ?_; try simp only [Act.put, List.setIfInBounds_toArray, List.set_cons_zero, List.set_cons_succ]
      refine wpAnyH_take (i := 1) (oi := { dst := some 18, op := _, type := _, pos := _, after := _, guard := _ }) (v := .int .i64 k) rfl (by kernel_rfl) (by kernel_rfl) (by kernel_rfl) (fun _ _ _ h => h) (Or.inl ⟨by rfl, by (intro w hSw; (try dsimp only at hSw); first | (go_simp; done) | (go_simp; with_reducible rfl) | (go_simp; omega) | (go_simp; simp [*]; done))⟩) (by assumption) ?_; try simp only [Act.put, List.setIfInBounds_toArray, List.set_cons_zero, List.set_cons_succ]
      refine wpAnyH_take (i := 2) (oi := { dst := some 19, op := _, type := _, pos := _, after := _, guard := _ }) (v := .pointer (some (ad.add (k * 12)))) rfl (by kernel_rfl) (by kernel_rfl) (by kernel_rfl) (fun _ _ _ h => h) (Or.inl ⟨by rfl, by (intro w hSw; (try dsimp only at hSw); first | (go_simp; done) | (go_simp; with_reducible rfl) | (go_simp; omega) | (go_simp; simp [*]; done))⟩) (by assumption) ?_; try simp only [Act.put, List.setIfInBounds_toArray, List.set_cons_zero, List.set_cons_succ]
      refine wpAnyH_take (i := 3) (oi := { dst := some 20, op := _, type := _, pos := _, after := _, guard := _ }) (v := .agg #[.int .i64 kc, .slice X1 l1 C1, .int .i64 x2, .int .i64 x3, .int .i64 x4, .slice X5 l5 C5, .slice X6 l6 C6, .bool x7, .int .i64 x8, .slice X9 l9 C9, .slice X10 l10 C10, .slice X11 l11 C11]) rfl (by kernel_rfl) (by kernel_rfl) (by kernel_rfl) (fun _ _ _ h => h) (Or.inl ⟨by rfl, by (intro w hSw; (try dsimp only at hSw); first | (go_simp; done) | (go_simp; with_reducible rfl) | (go_simp; omega) | (go_simp; simp [*]; done))⟩) (by assumption) ?_; try simp only [Act.put, List.setIfInBounds_toArray, List.set_cons_zero, List.set_cons_succ]
      refine wpAnyH_take (i := 4) (oi := { dst := some 21, op := _, type := _, pos := _, after := _, guard := _ }) (v := .slice (some ad2) l.length c2) rfl (by kernel_rfl) (by kernel_rfl) (by kernel_rfl) (fun _ _ _ h => h) (Or.inl ⟨by rfl, by (intro w hSw; (try dsimp only at hSw); first | (go_simp; done) | (go_simp; with_reducible rfl) | (go_simp; omega) | (go_simp; simp [*]; done))⟩) (by assumption) ?_; try simp only [Act.put, List.setIfInBounds_toArray, List.set_cons_zero, List.set_cons_succ]
      refine wpAnyH_take (i := 5) (oi := { dst := some 22, op := _, type := _, pos := _, after := _, guard := _ }) (v := .int .i64 k) rfl (by kernel_rfl) (by kernel_rfl) (by kernel_rfl) (fun _ _ _ h => h) (Or.inl ⟨by rfl, by (intro w hSw; (try dsimp only at hSw); first | (go_simp; done) | (go_simp; with_reducible rfl) | (go_simp; omega) | (go_simp; simp [*]; done))⟩) (by assumption) ?_; try simp only [Act.put, List.setIfInBounds_toArray, List.set_cons_zero, List.set_cons_succ]
      refine wpAnyH_take (i := 6) (oi := { dst := some 23, op := _, type := _, pos := _, after := _, guard := _ }) (v := .pointer (some (ad2.add (k * 12)))) rfl (by kernel_rfl) (by kernel_rfl) (by kernel_rfl) (fun _ _ _ h => h) (Or.inl ⟨by rfl, by (intro w hSw; (try dsimp only at hSw); first | (go_simp; done) | (go_simp; with_reducible rfl) | (go_simp; omega) | (go_simp; simp [*]; done))⟩) (by assumption) ?_; try simp only [Act.put, List.setIfInBounds_toArray, List.set_cons_zero, List.set_cons_succ]
      refine wpAnyH_take (i := 7) (oi := { dst := some 24, op := _, type := _, pos := _, after := _, guard := _ }) (v := .agg #[.int .i64 kc, .slice Y1 m1 D1, .int .i64 y2, .int .i64 y3, .int .i64 y4, .slice Y5 m5 D5, .slice Y6 m6 D6, .bool y7, .int .i64 y8, .slice Y9 m9 D9, .slice Y10 m10 D10, .slice Y11 m11 D11]) rfl (by kernel_rfl) (by kernel_rfl) (by kernel_rfl) (fun _ _ _ h => h) (Or.inl ⟨by rfl, by (intro w hSw; (try dsimp only at hSw); first | (go_simp; done) | (go_simp; with_reducible rfl) | (go_simp; omega) | (go_simp; simp [*]; done))⟩) (by assumption) ?_; try simp only [Act.put, List.setIfInBounds_toArray, List.set_cons_zero, List.set_cons_succ]
      refine wpAnyH_ready (rs := [8]) (by kernel_rfl) (by simp) ?_
      refine AllReadyH.cons (o := { dst := some 25, op := _, type := _, pos := _, after := _, guard := _ }) rfl (fun K hK => ?_) AllReadyH.nil
      go_simp
      go_at_call 75
      refine (HX.out _ hBd).mono ?_
      rintro e w5 ⟨rfl, hb5⟩
      have hB5 : Below w.heap.size w w5 := hBd.trans (hb5.mono hBd.size)
      (try simp only [Result.andThen])
      refine hK.out _ _ (FF.out _ hB5) (fun hHeld => ?_)
      clear hK K
      refine wpAnyH_take (i := 9) (oi := { dst := some 26, op := _, type := _, pos := _, after := _, guard := _ }) (v := .bool false) rfl (by kernel_rfl) (by kernel_rfl) (by kernel_rfl) (fun _ _ _ h => h) (Or.inl ⟨by rfl, by (intro w hSw; (try dsimp only at hSw); first | (go_simp; done) | (go_simp; with_reducible rfl) | (go_simp; omega) | (go_simp; simp [*]; done))⟩) (by assumption) ?_; try simp only [Act.put, List.setIfInBounds_toArray, List.set_cons_zero, List.set_cons_succ]
      refine wpAnyH_done (by kernel_rfl) ?_ _
      go_wp2_with fail
      go_roundw
      case rel => exact ⟨k + 1, hlt, by go_num, hB5⟩
      case measure => simp [intOf]; omega
    · obtain rfl : k = l.length := by omega
      have i1 : ¬ (l.length : Int) < (l.length : Int) := by omega
      go_wp2_with fail
      go_ret
      exact ⟨rfl, hB⟩
set_option maxHeartbeats 2000000 in
set_option maxRecDepth 100000 in
theorem sameCommand_step (n : Nat) (IH : SmL n) : SmC (n + 1) := by
  intro c cs cs2 w hK hK2
  obtain ⟨A0, a0, tcs, A4, a4, A5, a5, rfl, _, hr0, hKt, hr4, hr5⟩ := cmd_K hK
  obtain ⟨E0, e0, tcs2, E4, e4, E5, e5, rfl, _, he0, hKe, he4, he5⟩ := cmd_K hK2
  obtain ⟨A1, a1, A2, a2, A3, a3, rfl, _⟩ := test_K hKt
  obtain ⟨E1, e1, E2, e2, E3, e3, rfl, _⟩ := test_K hKe
  obtain ⟨kd, tx, ⟨tk, mt, pt, nm, ks, ov, lm, ts⟩, th, el⟩ := c
  simp only at hr0 hKt hr4 hr5 he0 hKe he4 he5 ⊢
  have HT := Lib.hid (fun w hr hr2 => sameTexts_calls A0 a0 E0 e0 tx w hr hr2)
  have HS := Lib.hid (fun w hr hr2 => sameTest_calls (n + 1) ⟨tk, mt, pt, nm, ks, ov, lm, ts⟩ [.int .i64 tk, .int .i64 mt, .int .i64 pt, .slice A1 nm.length a1, .slice A2 ks.length a2, .bool ov, .int .i64 lm, .slice A3 ts.length a3] [.int .i64 tk, .int .i64 mt, .int .i64 pt, .slice E1 nm.length e1, .slice E2 ks.length e2, .bool ov, .int .i64 lm, .slice E3 ts.length e3] w hr hr2)
  have HH := Lib.hid (fun w hr hr2 => IH A4 a4 E4 e4 th w hr hr2)
  have HE := Lib.hid (fun w hr hr2 => IH A5 a5 E5 e5 el w hr hr2)
  have R0 := Lib.hid (And.intro hr0 he0)
  have R1 := Lib.hid (And.intro hKt hKe)
  have R4 := Lib.hid (And.intro hr4 he4)
  have R5 := Lib.hid (And.intro hr5 he5)
  clear hK hK2 hr0 he0 hKt hKe hr4 he4 hr5 he5 IH
  have hP : Blk ((w.alloc (.cells #[.int .i64 kd, .slice A0 tx.length a0, .int .i64 tk, .int .i64 mt, .int .i64 pt, .slice A1 nm.length a1, .slice A2 ks.length a2, .bool ov, .int .i64 lm, .slice A3 ts.length a3, .slice A4 th.length a4, .slice A5 el.length a5] 109)).alloc (.cells #[.int .i64 kd, .slice E0 tx.length e0, .int .i64 tk, .int .i64 mt, .int .i64 pt, .slice E1 nm.length e1, .slice E2 ks.length e2, .bool ov, .int .i64 lm, .slice E3 ts.length e3, .slice E4 th.length e4, .slice E5 el.length e5] 109)) w.heap.size [.int .i64 kd, .slice A0 tx.length a0, .int .i64 tk, .int .i64 mt, .int .i64 pt, .slice A1 nm.length a1, .slice A2 ks.length a2, .bool ov, .int .i64 lm, .slice A3 ts.length a3, .slice A4 th.length a4, .slice A5 el.length a5] := (Blk.made w _ _).alloc _
  have hQ : Blk ((w.alloc (.cells #[.int .i64 kd, .slice A0 tx.length a0, .int .i64 tk, .int .i64 mt, .int .i64 pt, .slice A1 nm.length a1, .slice A2 ks.length a2, .bool ov, .int .i64 lm, .slice A3 ts.length a3, .slice A4 th.length a4, .slice A5 el.length a5] 109)).alloc (.cells #[.int .i64 kd, .slice E0 tx.length e0, .int .i64 tk, .int .i64 mt, .int .i64 pt, .slice E1 nm.length e1, .slice E2 ks.length e2, .bool ov, .int .i64 lm, .slice E3 ts.length e3, .slice E4 th.length e4, .slice E5 el.length e5] 109)) (w.heap.size + 1) [.int .i64 kd, .slice E0 tx.length e0, .int .i64 tk, .int .i64 mt, .int .i64 pt, .slice E1 nm.length e1, .slice E2 ks.length e2, .bool ov, .int .i64 lm, .slice E3 ts.length e3, .slice E4 th.length e4, .slice E5 el.length e5] := Blk.made_at _ _ _ (by simp)
  have hB : Below w.heap.size w ((w.alloc (.cells #[.int .i64 kd, .slice A0 tx.length a0, .int .i64 tk, .int .i64 mt, .int .i64 pt, .slice A1 nm.length a1, .slice A2 ks.length a2, .bool ov, .int .i64 lm, .slice A3 ts.length a3, .slice A4 th.length a4, .slice A5 el.length a5] 109)).alloc (.cells #[.int .i64 kd, .slice E0 tx.length e0, .int .i64 tk, .int .i64 mt, .int .i64 pt, .slice E1 nm.length e1, .slice E2 ks.length e2, .bool ov, .int .i64 lm, .slice E3 ts.length e3, .slice E4 th.length e4, .slice E5 el.length e5] 109)) := (by repeat (first | exact Below.refl _ _ | apply below_alloc | apply pw_below_drewN | apply below_drew1 | (refine Below.setCell ?_ (by first | (simp; done) | (simp; omega) | omega) _) ))
  have p0 := (hP).at 0 _ rfl
  have p1 := (hP).at 1 _ rfl
  have p2 := (hP).at 2 _ rfl
  have p3 := (hP).at 3 _ rfl
  have p4 := (hP).at 4 _ rfl
  have p5 := (hP).at 5 _ rfl
  have p6 := (hP).at 6 _ rfl
  have p7 := (hP).at 7 _ rfl
  have p8 := (hP).at 8 _ rfl
  have p9 := (hP).at 9 _ rfl
  have p10 := (hP).at 10 _ rfl
  have p11 := (hP).at 11 _ rfl
  have q0 := (hQ).at 0 _ rfl
  have q1 := (hQ).at 1 _ rfl
  have q2 := (hQ).at 2 _ rfl
  have q3 := (hQ).at 3 _ rfl
  have q4 := (hQ).at 4 _ rfl
  have q5 := (hQ).at 5 _ rfl
  have q6 := (hQ).at 6 _ rfl
  have q7 := (hQ).at 7 _ rfl
  have q8 := (hQ).at 8 _ rfl
  have q9 := (hQ).at 9 _ rfl
  have q10 := (hQ).at 10 _ rfl
  have q11 := (hQ).at 11 _ rfl
  go_enter Tryd.func75, Tryd.ntmps75
  go_wp2_with fail
  refine (HT.out _ (Kd.C_below R0.out.1 hB) (Kd.C_below R0.out.2 hB)).mono ?_
  rintro e w1 ⟨rfl, hb1⟩
  have hP' := hP.below hb1 hP.lt
  have hQ' := hQ.below hb1 hQ.lt
  have hB' : Below w.heap.size w w1 := hB.trans ((hb1).mono hB.size)
  clear hP hQ hB hb1 p0 p1 p2 p3 p4 p5 p6 p7 p8 p9 p10 p11 q0 q1 q2 q3 q4 q5 q6 q7 q8 q9 q10 q11
  have hP := hP'
  have hQ := hQ'
  have hB := hB'
  clear hP' hQ' hB'
  have p0 := (hP).at 0 _ rfl
  have p1 := (hP).at 1 _ rfl
  have p2 := (hP).at 2 _ rfl
  have p3 := (hP).at 3 _ rfl
  have p4 := (hP).at 4 _ rfl
  have p5 := (hP).at 5 _ rfl
  have p6 := (hP).at 6 _ rfl
  have p7 := (hP).at 7 _ rfl
  have p8 := (hP).at 8 _ rfl
  have p9 := (hP).at 9 _ rfl
  have p10 := (hP).at 10 _ rfl
  have p11 := (hP).at 11 _ rfl
  have q0 := (hQ).at 0 _ rfl
  have q1 := (hQ).at 1 _ rfl
  have q2 := (hQ).at 2 _ rfl
  have q3 := (hQ).at 3 _ rfl
  have q4 := (hQ).at 4 _ rfl
  have q5 := (hQ).at 5 _ rfl
  have q6 := (hQ).at 6 _ rfl
  have q7 := (hQ).at 7 _ rfl
  have q8 := (hQ).at 8 _ rfl
  have q9 := (hQ).at 9 _ rfl
  have q10 := (hQ).at 10 _ rfl
  have q11 := (hQ).at 11 _ rfl
  go_wp2_with fail
  refine (HS.out _ ((kTestF (kTest n)).K_below hB R1.out.1) ((kTestF (kTest n)).K_below hB R1.out.2)).mono ?_
  rintro e w2 ⟨rfl, hb2⟩
  have hP' := hP.below hb2 hP.lt
  have hQ' := hQ.below hb2 hQ.lt
  have hB' : Below w.heap.size w w2 := hB.trans ((hb2).mono hB.size)
  clear hP hQ hB hb2 p0 p1 p2 p3 p4 p5 p6 p7 p8 p9 p10 p11 q0 q1 q2 q3 q4 q5 q6 q7 q8 q9 q10 q11
  have hP := hP'
  have hQ := hQ'
  have hB := hB'
  clear hP' hQ' hB'
  have p0 := (hP).at 0 _ rfl
  have p1 := (hP).at 1 _ rfl
  have p2 := (hP).at 2 _ rfl
  have p3 := (hP).at 3 _ rfl
  have p4 := (hP).at 4 _ rfl
  have p5 := (hP).at 5 _ rfl
  have p6 := (hP).at 6 _ rfl
  have p7 := (hP).at 7 _ rfl
  have p8 := (hP).at 8 _ rfl
  have p9 := (hP).at 9 _ rfl
  have p10 := (hP).at 10 _ rfl
  have p11 := (hP).at 11 _ rfl
  have q0 := (hQ).at 0 _ rfl
  have q1 := (hQ).at 1 _ rfl
  have q2 := (hQ).at 2 _ rfl
  have q3 := (hQ).at 3 _ rfl
  have q4 := (hQ).at 4 _ rfl
  have q5 := (hQ).at 5 _ rfl
  have q6 := (hQ).at 6 _ rfl
  have q7 := (hQ).at 7 _ rfl
  have q8 := (hQ).at 8 _ rfl
  have q9 := (hQ).at 9 _ rfl
  have q10 := (hQ).at 10 _ rfl
  have q11 := (hQ).at 11 _ rfl
  go_wp2_with fail
  refine (HH.out _ (Kd.C_below R4.out.1 hB) (Kd.C_below R4.out.2 hB)).mono ?_
  rintro e w3 ⟨rfl, hb3⟩
  have hP' := hP.below hb3 hP.lt
  have hQ' := hQ.below hb3 hQ.lt
  have hB' : Below w.heap.size w w3 := hB.trans ((hb3).mono hB.size)
  clear hP hQ hB hb3 p0 p1 p2 p3 p4 p5 p6 p7 p8 p9 p10 p11 q0 q1 q2 q3 q4 q5 q6 q7 q8 q9 q10 q11
  have hP := hP'
  have hQ := hQ'
  have hB := hB'
  clear hP' hQ' hB'
  have p0 := (hP).at 0 _ rfl
  have p1 := (hP).at 1 _ rfl
  have p2 := (hP).at 2 _ rfl
  have p3 := (hP).at 3 _ rfl
  have p4 := (hP).at 4 _ rfl
  have p5 := (hP).at 5 _ rfl
  have p6 := (hP).at 6 _ rfl
  have p7 := (hP).at 7 _ rfl
  have p8 := (hP).at 8 _ rfl
  have p9 := (hP).at 9 _ rfl
  have p10 := (hP).at 10 _ rfl
  have p11 := (hP).at 11 _ rfl
  have q0 := (hQ).at 0 _ rfl
  have q1 := (hQ).at 1 _ rfl
  have q2 := (hQ).at 2 _ rfl
  have q3 := (hQ).at 3 _ rfl
  have q4 := (hQ).at 4 _ rfl
  have q5 := (hQ).at 5 _ rfl
  have q6 := (hQ).at 6 _ rfl
  have q7 := (hQ).at 7 _ rfl
  have q8 := (hQ).at 8 _ rfl
  have q9 := (hQ).at 9 _ rfl
  have q10 := (hQ).at 10 _ rfl
  have q11 := (hQ).at 11 _ rfl
  go_wp2_with fail
  refine (HE.out _ (Kd.C_below R5.out.1 hB) (Kd.C_below R5.out.2 hB)).mono ?_
  rintro e w4 ⟨rfl, hb4⟩
  have hP' := hP.below hb4 hP.lt
  have hQ' := hQ.below hb4 hQ.lt
  have hB' : Below w.heap.size w w4 := hB.trans ((hb4).mono hB.size)
  clear hP hQ hB hb4 p0 p1 p2 p3 p4 p5 p6 p7 p8 p9 p10 p11 q0 q1 q2 q3 q4 q5 q6 q7 q8 q9 q10 q11
  have hP := hP'
  have hQ := hQ'
  have hB := hB'
  clear hP' hQ' hB'
  have p0 := (hP).at 0 _ rfl
  have p1 := (hP).at 1 _ rfl
  have p2 := (hP).at 2 _ rfl
  have p3 := (hP).at 3 _ rfl
  have p4 := (hP).at 4 _ rfl
  have p5 := (hP).at 5 _ rfl
  have p6 := (hP).at 6 _ rfl
  have p7 := (hP).at 7 _ rfl
  have p8 := (hP).at 8 _ rfl
  have p9 := (hP).at 9 _ rfl
  have p10 := (hP).at 10 _ rfl
  have p11 := (hP).at 11 _ rfl
  have q0 := (hQ).at 0 _ rfl
  have q1 := (hQ).at 1 _ rfl
  have q2 := (hQ).at 2 _ rfl
  have q3 := (hQ).at 3 _ rfl
  have q4 := (hQ).at 4 _ rfl
  have q5 := (hQ).at 5 _ rfl
  have q6 := (hQ).at 6 _ rfl
  have q7 := (hQ).at 7 _ rfl
  have q8 := (hQ).at 8 _ rfl
  have q9 := (hQ).at 9 _ rfl
  have q10 := (hQ).at 10 _ rfl
  have q11 := (hQ).at 11 _ rfl
  go_wp2_with fail
  go_ret
  exact ⟨(by first | rfl | (simp; done) | (simp [*]; done) | (rw [if_pos (by omega)]; first | rfl | (simp; done)) | (rw [if_neg (by omega)]; first | rfl | (simp; done)) | (simp; omega)), hB⟩
theorem sameCommand_calls : ∀ n, SmC n
  | 0 => fun x => nomatch x
  | n + 1 => sameCommand_step n (sameCommands_of n (sameCommand_calls n))
theorem sameCommands_calls (n : Nat) : SmL n := sameCommands_of n (sameCommand_calls n)
end Go.Proofs.YtijdghplfhfpaaaDoor.H

/- Scripts: a copy of a command. -/
namespace Go.Proofs.YtijdghplfhfpaaaDoor.H
open Go.RowKit Go.Proofs.YtijdghplfhfpaaaDoorW.PrintWords Go.Proofs.YtijdghplfhfpaaaDoorW.PrintLast Go.Proofs.YtijdghplfhfpaaaDoor.U
set_option linter.unusedVariables false
set_option linter.unusedSimpArgs false
theorem other12 {w1 : World} {b b' : Nat} {l : List Value} {v0 v1 v2 v3 v4 v5 v6 v7 v8 v9 v10 v11 : Value} (h : Blk w1 b' l) (hb : b ≠ b') : Blk ((((((((((((w1.setCell ⟨b, 0, none⟩ v0).setCell ⟨b, 1, none⟩ v1).setCell ⟨b, 2, none⟩ v2).setCell ⟨b, 3, none⟩ v3).setCell ⟨b, 4, none⟩ v4).setCell ⟨b, 5, none⟩ v5).setCell ⟨b, 6, none⟩ v6).setCell ⟨b, 7, none⟩ v7).setCell ⟨b, 8, none⟩ v8).setCell ⟨b, 9, none⟩ v9).setCell ⟨b, 10, none⟩ v10).setCell ⟨b, 11, none⟩ v11) b' l :=
  Blk.other (Blk.other (Blk.other (Blk.other (Blk.other (Blk.other (Blk.other (Blk.other (Blk.other (Blk.other (Blk.other (Blk.other (h) hb _) hb _) hb _) hb _) hb _) hb _) hb _) hb _) hb _) hb _) hb _) hb _
set_option maxHeartbeats 2000000 in
set_option maxRecDepth 100000 in
theorem command_step (n : Nat) (IH : CpL n) : CpC (n + 1) := by
  intro c cs w hK hw
  obtain ⟨A0, c0, tcs, A4, c4, A5, c5, rfl, hlen, hr0, hKt, hr4, hr5⟩ := cmd_K hK
  obtain ⟨A1, c1, A2, c2, A3, c3, rfl, _⟩ := test_K hKt
  obtain ⟨kd, tx, ⟨tk, mt, pt, nm, ks, ov, lm, ts⟩, th, el⟩ := c
  simp only at hlen hr0 hKt hr4 hr5 ⊢
  have hw' : 1 + tx.length + wtT (n + 1) ⟨tk, mt, pt, nm, ks, ov, lm, ts⟩ + (th.map (wtC n)).sum + (el.map (wtC n)).sum ≤ 1048576 := hw
  have HT := Lib.hid (fun w hr => texts_calls A0 c0 tx w hr (by omega))
  have HS := Lib.hid (fun w hr => tests_calls (n + 1) ⟨tk, mt, pt, nm, ks, ov, lm, ts⟩ [.int .i64 tk, .int .i64 mt, .int .i64 pt, .slice A1 nm.length c1, .slice A2 ks.length c2, .bool ov, .int .i64 lm, .slice A3 ts.length c3] w hr (show wtT (n + 1) ⟨tk, mt, pt, nm, ks, ov, lm, ts⟩ ≤ 1048576 by omega))
  have HH := Lib.hid (fun w hr => IH A4 c4 th w hr (by omega))
  have HE := Lib.hid (fun w hr => IH A5 c5 el w hr (by omega))
  have hcmi := Lib.hid (fun (w : World) (base : Nat) v1 v2 v3 us h1 ht h2 h3 => cmd_MI (d := kTest n) (e := kCmd n) (w := w) (base := base) (ok := fun _ => True) (c := ⟨kd, tx, ⟨tk, mt, pt, nm, ks, ov, lm, ts⟩, th, el⟩) (v1 := v1) (v2 := v2) (v3 := v3) (ts := us) h1 ht h2 h3)
  replace hr0 := Lib.hid hr0
  replace hKt := Lib.hid hKt
  replace hr4 := Lib.hid hr4
  replace hr5 := Lib.hid hr5
  clear hK hw hw' hlen IH
  have hW0 : Blk ((w.alloc (.cells #[.int .i64 kd, .slice A0 tx.length c0, .int .i64 tk, .int .i64 mt, .int .i64 pt, .slice A1 nm.length c1, .slice A2 ks.length c2, .bool ov, .int .i64 lm, .slice A3 ts.length c3, .slice A4 th.length c4, .slice A5 el.length c5] 109)).alloc (.cells #[.int .i64 0, .slice none 0 0, .int .i64 0, .int .i64 0, .int .i64 0, .slice none 0 0, .slice none 0 0, .bool false, .int .i64 0, .slice none 0 0, .slice none 0 0, .slice none 0 0] 109)) w.heap.size [.int .i64 kd, .slice A0 tx.length c0, .int .i64 tk, .int .i64 mt, .int .i64 pt, .slice A1 nm.length c1, .slice A2 ks.length c2, .bool ov, .int .i64 lm, .slice A3 ts.length c3, .slice A4 th.length c4, .slice A5 el.length c5] := (Blk.made w _ _).alloc _
  have hW1 : Blk ((w.alloc (.cells #[.int .i64 kd, .slice A0 tx.length c0, .int .i64 tk, .int .i64 mt, .int .i64 pt, .slice A1 nm.length c1, .slice A2 ks.length c2, .bool ov, .int .i64 lm, .slice A3 ts.length c3, .slice A4 th.length c4, .slice A5 el.length c5] 109)).alloc (.cells #[.int .i64 0, .slice none 0 0, .int .i64 0, .int .i64 0, .int .i64 0, .slice none 0 0, .slice none 0 0, .bool false, .int .i64 0, .slice none 0 0, .slice none 0 0, .slice none 0 0] 109)) (w.heap.size + 1) [.int .i64 0, .slice none 0 0, .int .i64 0, .int .i64 0, .int .i64 0, .slice none 0 0, .slice none 0 0, .bool false, .int .i64 0, .slice none 0 0, .slice none 0 0, .slice none 0 0] := Blk.made_at _ _ _ (by simp)
  have hW2 : Below w.heap.size w ((w.alloc (.cells #[.int .i64 kd, .slice A0 tx.length c0, .int .i64 tk, .int .i64 mt, .int .i64 pt, .slice A1 nm.length c1, .slice A2 ks.length c2, .bool ov, .int .i64 lm, .slice A3 ts.length c3, .slice A4 th.length c4, .slice A5 el.length c5] 109)).alloc (.cells #[.int .i64 0, .slice none 0 0, .int .i64 0, .int .i64 0, .int .i64 0, .slice none 0 0, .slice none 0 0, .bool false, .int .i64 0, .slice none 0 0, .slice none 0 0, .slice none 0 0] 109)) := (by repeat (first | exact Below.refl _ _ | apply below_alloc | apply pw_below_drewN | apply below_drew1 | (refine Below.setCell ?_ (by first | (simp; done) | (simp; omega) | omega) _) ))
  go_enter Tryd.func70, Tryd.ntmps70
  go_wp2_with fail
  obtain ⟨V, hV⟩ : ∃ V : World, V = ((w.alloc (.cells #[.int .i64 kd, .slice A0 tx.length c0, .int .i64 tk, .int .i64 mt, .int .i64 pt, .slice A1 nm.length c1, .slice A2 ks.length c2, .bool ov, .int .i64 lm, .slice A3 ts.length c3, .slice A4 th.length c4, .slice A5 el.length c5] 109)).alloc (.cells #[.int .i64 0, .slice none 0 0, .int .i64 0, .int .i64 0, .int .i64 0, .slice none 0 0, .slice none 0 0, .bool false, .int .i64 0, .slice none 0 0, .slice none 0 0, .slice none 0 0] 109)).drew := ⟨_, rfl⟩
  have hKc : Blk V w.heap.size [.int .i64 kd, .slice A0 tx.length c0, .int .i64 tk, .int .i64 mt, .int .i64 pt, .slice A1 nm.length c1, .slice A2 ks.length c2, .bool ov, .int .i64 lm, .slice A3 ts.length c3, .slice A4 th.length c4, .slice A5 el.length c5] := by rw [hV]; exact hW0.drew
  have hZc : Blk V (w.heap.size + 1) [.int .i64 0, .slice none 0 0, .int .i64 0, .int .i64 0, .int .i64 0, .slice none 0 0, .slice none 0 0, .bool false, .int .i64 0, .slice none 0 0, .slice none 0 0, .slice none 0 0] := by rw [hV]; exact hW1.drew
  have hBc : Below w.heap.size w V := by rw [hV]; exact below_drew1 hW2
  clear hW0 hW1 hW2
  refine wp_region_held_drew (S := fun w' => w'.cell? ⟨w.heap.size, 0, none⟩ = some (.int .i64 kd) ∧ w'.cell? ⟨w.heap.size, 1, none⟩ = some (.slice A0 tx.length c0) ∧ w'.cell? ⟨w.heap.size, 2, none⟩ = some (.int .i64 tk) ∧ w'.cell? ⟨w.heap.size, 3, none⟩ = some (.int .i64 mt) ∧ w'.cell? ⟨w.heap.size, 4, none⟩ = some (.int .i64 pt) ∧ w'.cell? ⟨w.heap.size, 5, none⟩ = some (.slice A1 nm.length c1) ∧ w'.cell? ⟨w.heap.size, 6, none⟩ = some (.slice A2 ks.length c2) ∧ w'.cell? ⟨w.heap.size, 7, none⟩ = some (.bool ov) ∧ w'.cell? ⟨w.heap.size, 8, none⟩ = some (.int .i64 lm) ∧ w'.cell? ⟨w.heap.size, 9, none⟩ = some (.slice A3 ts.length c3) ∧ w'.cell? ⟨w.heap.size, 10, none⟩ = some (.slice A4 th.length c4) ∧ w'.cell? ⟨w.heap.size, 11, none⟩ = some (.slice A5 el.length c5)) (by kernel_rfl) ?_ (fun hHeld => ?_)
  · rw [← hV]; exact ⟨(hKc).at 0 _ rfl, (hKc).at 1 _ rfl, (hKc).at 2 _ rfl, (hKc).at 3 _ rfl, (hKc).at 4 _ rfl, (hKc).at 5 _ rfl, (hKc).at 6 _ rfl, (hKc).at 7 _ rfl, (hKc).at 8 _ rfl, (hKc).at 9 _ rfl, (hKc).at 10 _ rfl, (hKc).at 11 _ rfl⟩
  rw [← hV] at hHeld ⊢
  replace hV := Lib.hid hV
  refine wpAnyH_take (i := 0) (oi := { dst := some 3, op := _, type := _, pos := _, after := _, guard := _ }) (v := .pointer (some ⟨w.heap.size, 0, none⟩)) rfl (by kernel_rfl) (by kernel_rfl) (by kernel_rfl) (fun _ _ _ h => h) (Or.inl ⟨by rfl, by (intro w hSw; (try dsimp only at hSw); first | (go_simp; done) | (go_simp; with_reducible rfl) | (go_simp; omega) | (go_simp; simp [*]; done))⟩) (by assumption) ?_; try simp only [Act.put, List.setIfInBounds_toArray, List.set_cons_zero, List.set_cons_succ]
  refine wpAnyH_take (i := 1) (oi := { dst := some 4, op := _, type := _, pos := _, after := _, guard := _ }) (v := .int .i64 kd) rfl (by kernel_rfl) (by kernel_rfl) (by kernel_rfl) (fun _ _ _ h => h) (Or.inl ⟨by rfl, by (intro w hSw; (try dsimp only at hSw); first | (go_simp; done) | (go_simp; with_reducible rfl) | (go_simp; omega) | (go_simp; simp [*]; done))⟩) (by assumption) ?_; try simp only [Act.put, List.setIfInBounds_toArray, List.set_cons_zero, List.set_cons_succ]
  refine wpAnyH_take (i := 2) (oi := { dst := some 5, op := _, type := _, pos := _, after := _, guard := _ }) (v := .pointer (some ⟨w.heap.size, 1, none⟩)) rfl (by kernel_rfl) (by kernel_rfl) (by kernel_rfl) (fun _ _ _ h => h) (Or.inl ⟨by rfl, by (intro w hSw; (try dsimp only at hSw); first | (go_simp; done) | (go_simp; with_reducible rfl) | (go_simp; omega) | (go_simp; simp [*]; done))⟩) (by assumption) ?_; try simp only [Act.put, List.setIfInBounds_toArray, List.set_cons_zero, List.set_cons_succ]
  refine wpAnyH_take (i := 3) (oi := { dst := some 6, op := _, type := _, pos := _, after := _, guard := _ }) (v := .slice A0 tx.length c0) rfl (by kernel_rfl) (by kernel_rfl) (by kernel_rfl) (fun _ _ _ h => h) (Or.inl ⟨by rfl, by (intro w hSw; (try dsimp only at hSw); first | (go_simp; done) | (go_simp; with_reducible rfl) | (go_simp; omega) | (go_simp; simp [*]; done))⟩) (by assumption) ?_; try simp only [Act.put, List.setIfInBounds_toArray, List.set_cons_zero, List.set_cons_succ]
  refine wpAnyH_take (i := 5) (oi := { dst := some 8, op := _, type := _, pos := _, after := _, guard := _ }) (v := .pointer (some ⟨w.heap.size, 2, none⟩)) rfl (by kernel_rfl) (by kernel_rfl) (by kernel_rfl) (fun _ _ _ h => h) (Or.inl ⟨by rfl, by (intro w hSw; (try dsimp only at hSw); first | (go_simp; done) | (go_simp; with_reducible rfl) | (go_simp; omega) | (go_simp; simp [*]; done))⟩) (by assumption) ?_; try simp only [Act.put, List.setIfInBounds_toArray, List.set_cons_zero, List.set_cons_succ]
  refine wpAnyH_take (i := 6) (oi := { dst := some 9, op := _, type := _, pos := _, after := _, guard := _ }) (v := .agg #[.int .i64 tk, .int .i64 mt, .int .i64 pt, .slice A1 nm.length c1, .slice A2 ks.length c2, .bool ov, .int .i64 lm, .slice A3 ts.length c3]) rfl (by kernel_rfl) (by kernel_rfl) (by kernel_rfl) (fun _ _ _ h => h) (Or.inl ⟨by rfl, by (intro w hSw; (try dsimp only at hSw); first | (go_simp; done) | (go_simp; with_reducible rfl) | (go_simp; omega) | (go_simp; simp [*]; done))⟩) (by assumption) ?_; try simp only [Act.put, List.setIfInBounds_toArray, List.set_cons_zero, List.set_cons_succ]
  refine wpAnyH_take (i := 8) (oi := { dst := some 11, op := _, type := _, pos := _, after := _, guard := _ }) (v := .pointer (some ⟨w.heap.size, 10, none⟩)) rfl (by kernel_rfl) (by kernel_rfl) (by kernel_rfl) (fun _ _ _ h => h) (Or.inl ⟨by rfl, by (intro w hSw; (try dsimp only at hSw); first | (go_simp; done) | (go_simp; with_reducible rfl) | (go_simp; omega) | (go_simp; simp [*]; done))⟩) (by assumption) ?_; try simp only [Act.put, List.setIfInBounds_toArray, List.set_cons_zero, List.set_cons_succ]
  refine wpAnyH_take (i := 9) (oi := { dst := some 12, op := _, type := _, pos := _, after := _, guard := _ }) (v := .slice A4 th.length c4) rfl (by kernel_rfl) (by kernel_rfl) (by kernel_rfl) (fun _ _ _ h => h) (Or.inl ⟨by rfl, by (intro w hSw; (try dsimp only at hSw); first | (go_simp; done) | (go_simp; with_reducible rfl) | (go_simp; omega) | (go_simp; simp [*]; done))⟩) (by assumption) ?_; try simp only [Act.put, List.setIfInBounds_toArray, List.set_cons_zero, List.set_cons_succ]
  refine wpAnyH_take (i := 11) (oi := { dst := some 14, op := _, type := _, pos := _, after := _, guard := _ }) (v := .pointer (some ⟨w.heap.size, 11, none⟩)) rfl (by kernel_rfl) (by kernel_rfl) (by kernel_rfl) (fun _ _ _ h => h) (Or.inl ⟨by rfl, by (intro w hSw; (try dsimp only at hSw); first | (go_simp; done) | (go_simp; with_reducible rfl) | (go_simp; omega) | (go_simp; simp [*]; done))⟩) (by assumption) ?_; try simp only [Act.put, List.setIfInBounds_toArray, List.set_cons_zero, List.set_cons_succ]
  refine wpAnyH_take (i := 12) (oi := { dst := some 15, op := _, type := _, pos := _, after := _, guard := _ }) (v := .slice A5 el.length c5) rfl (by kernel_rfl) (by kernel_rfl) (by kernel_rfl) (fun _ _ _ h => h) (Or.inl ⟨by rfl, by (intro w hSw; (try dsimp only at hSw); first | (go_simp; done) | (go_simp; with_reducible rfl) | (go_simp; omega) | (go_simp; simp [*]; done))⟩) (by assumption) ?_; try simp only [Act.put, List.setIfInBounds_toArray, List.set_cons_zero, List.set_cons_succ]
  refine wpAnyH_ready (rs := [4]) (by kernel_rfl) (by simp) ?_
  refine AllReadyH.cons (o := { dst := some 7, op := _, type := _, pos := _, after := _, guard := _ }) rfl (fun K hK => ?_) AllReadyH.nil
  go_simp
  go_at_call 30
  refine (HT.out _ (Kd.C_below hr0.out hBc)).mono ?_
  rintro e w1 ⟨v1, rfl, hR1, hb1⟩
  have hN1 := hBc.size
  have hN2 := hZc.lt
  replace hR1 := Kd.R_lower hR1 (show w.heap.size + 2 ≤ V.heap.size by omega)
  obtain ⟨B1, d1, rfl⟩ := Kd.R_slice hR1
  have hK' := hKc.below hb1 hKc.lt
  have hZ' := hZc.below hb1 hZc.lt
  have hB' : Below w.heap.size w w1 := hBc.trans ((hb1).mono hBc.size)
  clear hKc hZc
  have hKc := hK'
  have hZc := hZ'
  clear hK' hZ' hBc
  have hBc := hB'
  clear hB'
  (try simp only [Result.andThen])
  refine hK.out _ _ ⟨(hKc).at 0 _ rfl, (hKc).at 1 _ rfl, (hKc).at 2 _ rfl, (hKc).at 3 _ rfl, (hKc).at 4 _ rfl, (hKc).at 5 _ rfl, (hKc).at 6 _ rfl, (hKc).at 7 _ rfl, (hKc).at 8 _ rfl, (hKc).at 9 _ rfl, (hKc).at 10 _ rfl, (hKc).at 11 _ rfl⟩ (fun hHeld => ?_)
  clear hK K
  refine wpAnyH_ready (rs := [7]) (by kernel_rfl) (by simp) ?_
  refine AllReadyH.cons (o := { dst := some 10, op := _, type := _, pos := _, after := _, guard := _ }) rfl (fun K hK => ?_) AllReadyH.nil
  go_simp
  go_at_call 110
  refine (HS.out _ ((kTestF (kTest n)).K_below hBc hKt.out)).mono ?_
  rintro e w2 ⟨us, rfl, hMt, hb2⟩
  obtain ⟨y0, y1, y2, Y3, m3, D3, Y4, m4, D4, y5, y6, Y7, m7, D7, rfl⟩ := testN_K (n := n + 1) ((kTest (n + 1)).K_of_M hMt)
  have hN1 := hBc.size
  have hN2 := hZc.lt
  replace hR1 := Kd.R_below hR1 hb2
  replace hMt := (kTest (n + 1)).M_lower (show w.heap.size + 2 ≤ w1.heap.size by omega) hMt
  have hK' := hKc.below hb2 hKc.lt
  have hZ' := hZc.below hb2 hZc.lt
  have hB' : Below w.heap.size w w2 := hBc.trans ((hb2).mono hBc.size)
  clear hKc hZc
  have hKc := hK'
  have hZc := hZ'
  clear hK' hZ' hBc
  have hBc := hB'
  clear hB'
  (try simp only [Result.andThen])
  refine hK.out _ _ ⟨(hKc).at 0 _ rfl, (hKc).at 1 _ rfl, (hKc).at 2 _ rfl, (hKc).at 3 _ rfl, (hKc).at 4 _ rfl, (hKc).at 5 _ rfl, (hKc).at 6 _ rfl, (hKc).at 7 _ rfl, (hKc).at 8 _ rfl, (hKc).at 9 _ rfl, (hKc).at 10 _ rfl, (hKc).at 11 _ rfl⟩ (fun hHeld => ?_)
  clear hK K
  refine wpAnyH_ready (rs := [10]) (by kernel_rfl) (by simp) ?_
  refine AllReadyH.cons (o := { dst := some 13, op := _, type := _, pos := _, after := _, guard := _ }) rfl (fun K hK => ?_) AllReadyH.nil
  go_simp
  go_at_call 34
  refine (HH.out _ (Kd.C_below hr4.out hBc)).mono ?_
  rintro e w3 ⟨v2, rfl, hR2, hb3⟩
  have hN1 := hBc.size
  have hN2 := hZc.lt
  replace hR1 := Kd.R_below hR1 hb3
  replace hMt := Kd.M_below hMt hb3
  replace hR2 := Kd.R_lower hR2 (show w.heap.size + 2 ≤ w2.heap.size by omega)
  obtain ⟨B2, d2, rfl⟩ := Kd.R_slice hR2
  have hK' := hKc.below hb3 hKc.lt
  have hZ' := hZc.below hb3 hZc.lt
  have hB' : Below w.heap.size w w3 := hBc.trans ((hb3).mono hBc.size)
  clear hKc hZc
  have hKc := hK'
  have hZc := hZ'
  clear hK' hZ' hBc
  have hBc := hB'
  clear hB'
  (try simp only [Result.andThen])
  refine hK.out _ _ ⟨(hKc).at 0 _ rfl, (hKc).at 1 _ rfl, (hKc).at 2 _ rfl, (hKc).at 3 _ rfl, (hKc).at 4 _ rfl, (hKc).at 5 _ rfl, (hKc).at 6 _ rfl, (hKc).at 7 _ rfl, (hKc).at 8 _ rfl, (hKc).at 9 _ rfl, (hKc).at 10 _ rfl, (hKc).at 11 _ rfl⟩ (fun hHeld => ?_)
  clear hK K
  refine wpAnyH_ready (rs := [13]) (by kernel_rfl) (by simp) ?_
  refine AllReadyH.cons (o := { dst := some 16, op := _, type := _, pos := _, after := _, guard := _ }) rfl (fun K hK => ?_) AllReadyH.nil
  go_simp
  go_at_call 34
  refine (HE.out _ (Kd.C_below hr5.out hBc)).mono ?_
  rintro e w4 ⟨v3, rfl, hR3, hb4⟩
  have hN1 := hBc.size
  have hN2 := hZc.lt
  replace hR1 := Kd.R_below hR1 hb4
  replace hMt := Kd.M_below hMt hb4
  replace hR2 := Kd.R_below hR2 hb4
  replace hR3 := Kd.R_lower hR3 (show w.heap.size + 2 ≤ w3.heap.size by omega)
  obtain ⟨B3, d3, rfl⟩ := Kd.R_slice hR3
  have hK' := hKc.below hb4 hKc.lt
  have hZ' := hZc.below hb4 hZc.lt
  have hB' : Below w.heap.size w w4 := hBc.trans ((hb4).mono hBc.size)
  clear hKc hZc
  have hKc := hK'
  have hZc := hZ'
  clear hK' hZ' hBc
  have hBc := hB'
  clear hB'
  (try simp only [Result.andThen])
  refine hK.out _ _ ⟨(hKc).at 0 _ rfl, (hKc).at 1 _ rfl, (hKc).at 2 _ rfl, (hKc).at 3 _ rfl, (hKc).at 4 _ rfl, (hKc).at 5 _ rfl, (hKc).at 6 _ rfl, (hKc).at 7 _ rfl, (hKc).at 8 _ rfl, (hKc).at 9 _ rfl, (hKc).at 10 _ rfl, (hKc).at 11 _ rfl⟩ (fun hHeld => ?_)
  clear hK K
  refine wpAnyH_take (i := 14) (oi := { dst := some 17, op := _, type := _, pos := _, after := _, guard := _ }) (v := .agg #[.int .i64 kd, .slice B1 tx.length d1, .int .i64 y0, .int .i64 y1, .int .i64 y2, .slice Y3 m3 D3, .slice Y4 m4 D4, .bool y5, .int .i64 y6, .slice Y7 m7 D7, .slice B2 th.length d2, .slice B3 el.length d3]) rfl (by kernel_rfl) (by kernel_rfl) (by kernel_rfl) (fun _ _ _ h => h) (Or.inl ⟨by rfl, by (intro w hSw; (try dsimp only at hSw); first | (go_simp; done) | (go_simp; with_reducible rfl) | (go_simp; omega) | (go_simp; simp [*]; done))⟩) (by assumption) ?_; try simp only [Act.put, List.setIfInBounds_toArray, List.set_cons_zero, List.set_cons_succ]
  have z0 := (hZc).at 0 _ rfl
  have z1 := (hZc).at 1 _ rfl
  have z2 := (hZc).at 2 _ rfl
  have z3 := (hZc).at 3 _ rfl
  have z4 := (hZc).at 4 _ rfl
  have z5 := (hZc).at 5 _ rfl
  have z6 := (hZc).at 6 _ rfl
  have z7 := (hZc).at 7 _ rfl
  have z8 := (hZc).at 8 _ rfl
  have z9 := (hZc).at 9 _ rfl
  have z10 := (hZc).at 10 _ rfl
  have z11 := (hZc).at 11 _ rfl
  have f0 := (hZc).free 0 _ rfl
  have f1 := (hZc).free 1 _ rfl
  have f2 := (hZc).free 2 _ rfl
  have f3 := (hZc).free 3 _ rfl
  have f4 := (hZc).free 4 _ rfl
  have f5 := (hZc).free 5 _ rfl
  have f6 := (hZc).free 6 _ rfl
  have f7 := (hZc).free 7 _ rfl
  have f8 := (hZc).free 8 _ rfl
  have f9 := (hZc).free 9 _ rfl
  have f10 := (hZc).free 10 _ rfl
  have f11 := (hZc).free 11 _ rfl
  have fl := (hZc).lt
  refine wpAnyH_ready (rs := [15]) (by kernel_rfl) (by simp) ?_
  refine AllReadyH.cons (o := { dst := none, op := _, type := _, pos := _, after := _, guard := _ }) rfl (fun K hK => ?_) AllReadyH.nil
  go_simp
  obtain ⟨Wf, hWf⟩ : ∃ Wf : World, Wf = ((((((((((((w4.setCell ⟨w.heap.size + 1, 0, none⟩ (.int .i64 kd)).setCell ⟨w.heap.size + 1, 1, none⟩ (.slice B1 tx.length d1)).setCell ⟨w.heap.size + 1, 2, none⟩ (.int .i64 y0)).setCell ⟨w.heap.size + 1, 3, none⟩ (.int .i64 y1)).setCell ⟨w.heap.size + 1, 4, none⟩ (.int .i64 y2)).setCell ⟨w.heap.size + 1, 5, none⟩ (.slice Y3 m3 D3)).setCell ⟨w.heap.size + 1, 6, none⟩ (.slice Y4 m4 D4)).setCell ⟨w.heap.size + 1, 7, none⟩ (.bool y5)).setCell ⟨w.heap.size + 1, 8, none⟩ (.int .i64 y6)).setCell ⟨w.heap.size + 1, 9, none⟩ (.slice Y7 m7 D7)).setCell ⟨w.heap.size + 1, 10, none⟩ (.slice B2 th.length d2)).setCell ⟨w.heap.size + 1, 11, none⟩ (.slice B3 el.length d3)) := ⟨_, rfl⟩
  have hKf : Blk Wf w.heap.size [.int .i64 kd, .slice A0 tx.length c0, .int .i64 tk, .int .i64 mt, .int .i64 pt, .slice A1 nm.length c1, .slice A2 ks.length c2, .bool ov, .int .i64 lm, .slice A3 ts.length c3, .slice A4 th.length c4, .slice A5 el.length c5] := by rw [hWf]; exact other12 hKc (by omega)
  have hZf : Blk Wf (w.heap.size + 1) [.int .i64 kd, .slice B1 tx.length d1, .int .i64 y0, .int .i64 y1, .int .i64 y2, .slice Y3 m3 D3, .slice Y4 m4 D4, .bool y5, .int .i64 y6, .slice Y7 m7 D7, .slice B2 th.length d2, .slice B3 el.length d3] := by rw [hWf]; exact (((((((((((hZc.set 0 _ (by simp)).set 1 _ (by simp)).set 2 _ (by simp)).set 3 _ (by simp)).set 4 _ (by simp)).set 5 _ (by simp)).set 6 _ (by simp)).set 7 _ (by simp)).set 8 _ (by simp)).set 9 _ (by simp)).set 10 _ (by simp)).set 11 _ (by simp)
  have hBf : Below w.heap.size w Wf := by rw [hWf]; exact below12 hBc (Nat.le_succ _)
  have hF1 : Kd.R Kd.string 9 Wf w.heap.size (fun _ => True) (.slice B1 tx.length d1) tx := by rw [hWf]; exact Kd.R_lower (elder12 hR1 (by omega)) (by omega)
  have hF2 : (kTestF (kTest n)).M Wf w.heap.size (fun _ => True) ⟨tk, mt, pt, nm, ks, ov, lm, ts⟩ [.int .i64 y0, .int .i64 y1, .int .i64 y2, .slice Y3 m3 D3, .slice Y4 m4 D4, .bool y5, .int .i64 y6, .slice Y7 m7 D7] := by rw [hWf]; exact (kTestF (kTest n)).M_lower (show w.heap.size ≤ w.heap.size + 2 by omega) (elderM12 hMt (by omega))
  have hF3 : (kCmd n).R 109 Wf w.heap.size (fun _ => True) (.slice B2 th.length d2) th := by rw [hWf]; exact Kd.R_lower (elder12 hR2 (by omega)) (by omega)
  have hF4 : (kCmd n).R 109 Wf w.heap.size (fun _ => True) (.slice B3 el.length d3) el := by rw [hWf]; exact Kd.R_lower (elder12 hR3 (by omega)) (by omega)
  rw [← hWf]
  clear z0 z1 z2 z3 z4 z5 z6 z7 z8 z9 z10 z11 f0 f1 f2 f3 f4 f5 f6 f7 f8 f9 f10 f11 fl
  replace hWf := Lib.hid hWf
  refine hK.out _ _ ⟨(hKf).at 0 _ rfl, (hKf).at 1 _ rfl, (hKf).at 2 _ rfl, (hKf).at 3 _ rfl, (hKf).at 4 _ rfl, (hKf).at 5 _ rfl, (hKf).at 6 _ rfl, (hKf).at 7 _ rfl, (hKf).at 8 _ rfl, (hKf).at 9 _ rfl, (hKf).at 10 _ rfl, (hKf).at 11 _ rfl⟩ (fun hHeld => ?_)
  clear hK K
  refine wpAnyH_done (by kernel_rfl) ?_ _
  have z0 := (hZf).at 0 _ rfl
  have z1 := (hZf).at 1 _ rfl
  have z2 := (hZf).at 2 _ rfl
  have z3 := (hZf).at 3 _ rfl
  have z4 := (hZf).at 4 _ rfl
  have z5 := (hZf).at 5 _ rfl
  have z6 := (hZf).at 6 _ rfl
  have z7 := (hZf).at 7 _ rfl
  have z8 := (hZf).at 8 _ rfl
  have z9 := (hZf).at 9 _ rfl
  have z10 := (hZf).at 10 _ rfl
  have z11 := (hZf).at 11 _ rfl
  have f0 := (hZf).free 0 _ rfl
  have f1 := (hZf).free 1 _ rfl
  have f2 := (hZf).free 2 _ rfl
  have f3 := (hZf).free 3 _ rfl
  have f4 := (hZf).free 4 _ rfl
  have f5 := (hZf).free 5 _ rfl
  have f6 := (hZf).free 6 _ rfl
  have f7 := (hZf).free 7 _ rfl
  have f8 := (hZf).free 8 _ rfl
  have f9 := (hZf).free 9 _ rfl
  have f10 := (hZf).free 10 _ rfl
  have f11 := (hZf).free 11 _ rfl
  have fl := (hZf).lt
  go_wp2_with fail
  refine bodyPost_ret (v := .agg #[.int .i64 kd, .slice B1 tx.length d1, .int .i64 y0, .int .i64 y1, .int .i64 y2, .slice Y3 m3 D3, .slice Y4 m4 D4, .bool y5, .int .i64 y6, .slice Y7 m7 D7, .slice B2 th.length d2, .slice B3 el.length d3]) (by simp [results, Tryd.results70, go_sem, *]) rfl ⟨[.int .i64 kd, .slice B1 tx.length d1, .int .i64 y0, .int .i64 y1, .int .i64 y2, .slice Y3 m3 D3, .slice Y4 m4 D4, .bool y5, .int .i64 y6, .slice Y7 m7 D7, .slice B2 th.length d2, .slice B3 el.length d3], rfl, hcmi.out _ _ _ _ _ _ hF1 hF2 hF3 hF4, hBf⟩
theorem command_calls : ∀ n, CpC n
  | 0 => fun x => nomatch x
  | n + 1 => command_step n (commands_of n (command_calls n))
theorem commands_calls (n : Nat) : CpL n := commands_of n (command_calls n)
end Go.Proofs.YtijdghplfhfpaaaDoor.H

/- The law ScriptShows answers true at every list of commands of small bulk: script.Show answers as the reference's CommandsShown, and changes nothing. -/
namespace Go.Proofs.YtijdghplfhfpaaaDoor.H
open Go.RowKit Go.Proofs.YtijdghplfhfpaaaDoorW.PrintWords Go.Proofs.YtijdghplfhfpaaaDoorW.PrintLast Go.Proofs.YtijdghplfhfpaaaDoor.U
set_option linter.unusedVariables false
set_option linter.unusedSimpArgs false
set_option maxHeartbeats 1000000 in
set_option maxRecDepth 100000 in
theorem scriptShows_walk (n : Nat) (A : Option Addr) (c : Nat) (l : List (CmdN n)) (w : World) (hr : (kCmd n).C w A l.length l) (hw : (l.map (wtC n)).sum ≤ 1048576) (hT : TabC w) :
    Calls Tryd.prog 10 #[.slice A l.length c] w fun e w' => e = .returned (.bool true) ∧ Below w.heap.size w w' := by
  have HB := Lib.hid (commands_calls n A c l w hr hw)
  have H1 := Lib.hid (fun A c W hr hT => scriptShow_calls n A c l W hr hw hT)
  have H2 := Lib.hid (fun W hr => commandsShown_calls n A c l W hr hw)
  replace hr := Lib.hid hr
  replace hT := Lib.hid hT
  clear hw
  generalize faultV n l = V at *
  generalize shownV n l = S at *
  go_enter Tryd.func10, Tryd.ntmps10
  go_wp2_with fail
  refine HB.out.mono ?_
  rintro e w1 ⟨v1, rfl, hR1, hb1⟩
  obtain ⟨A1, c1, rfl, hc1, hC1⟩ := C_of hR1
  go_wp2_with fail
  refine (H1.out A1 c1 _ hC1 (hT.out.below hb1)).mono ?_
  rintro e w2 ⟨v2, rfl, hR2, hb2⟩
  obtain ⟨A2, c2, rfl, hc2, hC2⟩ := C_of hR2
  have hB2 := hb1.trans (hb2.mono hb1.size)
  replace hC1 := Kd.C_below hC1 hb2
  go_wp2_with fail
  refine (H2.out _ (Kd.C_below hr.out hB2)).mono ?_
  rintro e w3 ⟨v3, rfl, hR3, hb3⟩
  obtain ⟨A3, c3, rfl, hc3, hC3⟩ := C_of hR3
  have hB3 := hB2.trans (hb3.mono hB2.size)
  have HT := Lib.hid (sameTokens_calls A2 c2 A3 c3 S w3 (Kd.C_below hC2 hb3) hC3)
  have HS := Lib.hid (fun W (h : Below w3.heap.size w3 W) => sameCommands_calls n A1 c1 A c l W (Kd.C_below (Kd.C_below hC1 hb3) h) (Kd.C_below (Kd.C_below hr.out hB3) h))
  clear hR1 hC1 hC2 hR2 hR3 hC3
  go_wp2_with fail
  refine HT.out.mono ?_
  rintro e w4 ⟨rfl, hb4⟩
  go_wp2_with fail
  refine (HS.out _ hb4).mono ?_
  rintro e w5 ⟨rfl, hb5⟩
  go_wp2_with fail
  go_ret
  exact ⟨(by first | rfl | (simp; done) | (simp [*]; done) | (rw [if_pos (by omega)]; first | rfl | (simp; done)) | (rw [if_neg (by omega)]; first | rfl | (simp; done)) | (simp; omega)), hB3.trans ((hb4.trans (hb5.mono hb4.size)).mono hB3.size)⟩
end Go.Proofs.YtijdghplfhfpaaaDoor.H
namespace Go.Proofs.YtijdghplfhfpaaaDoor.scriptShows
open Go.ChangeShapes Go.WideShapes Go.ChangeAt Go.RowKit Go.Proofs.YtijdghplfhfpaaaDoorW.PrintWords Go.Proofs.YtijdghplfhfpaaaDoor.U Go.Proofs.YtijdghplfhfpaaaDoor.UB Go.Proofs.YtijdghplfhfpaaaDoor.H
open Go.ChangeMaps (open_string shut_string)
set_option linter.unusedVariables false
set_option maxRecDepth 100000
theorem own : ownKnob Tryd.prog.godebug = none := by kernel_rfl
theorem laidOut : laidOutB Tryd.prog = true := by kernel_rfl
set_option maxRecDepth 100000 in
theorem lifted (os : Os) (started : os.Started) (H : Type) (enc : TypeId × Value → H) (F : Stop.Interp) :
    ReturnsInHanded {} Tryd.checked os 10 .any ((Rows.OpenSpec.upto Rows.scriptShowsSpec).preRow enc Tryd.prog Tryd.f10 Rows.scriptShowsUptoRow.domain false Rows.scriptShowsUptoRow.laid) (((Rows.OpenSpec.upto Rows.scriptShowsSpec).at F).post enc Tryd.prog Tryd.f10 false true false false) := by
  refine returnsInHanded_of_row (C := Tryd.checked) (s := Rows.OpenSpec.upto Rows.scriptShowsSpec) own started (by kernel_rfl) Tryd.func10
    (witness_up (enc := enc) (C := Tryd.checked) (s := Rows.OpenSpec.upto Rows.scriptShowsSpec) (laid := Rows.scriptShowsUptoRow.laid) os #[.slice none 0 0] 8 (World.shaped_of_ZipB (by kernel_rfl) (by kernel_rfl)) (by kernel_rfl) ([.nil], [], []) (by kernel_rfl) (by kernel_rfl)
      (fun k hk => by cases hk; kernel_rfl) (by kernel_rfl)
      (by rw [MakeChecks.laidMetH_plain _ _ _ (by kernel_rfl)]; exact laidMet_laidAll _ (by kernel_rfl) (by kernel_rfl))) ?_
  intro W base args ds gs before hval0 hW hcnd hcond hsz hL hsh _
  have hk : Rows.uptoSmall H (ds ++ gs) = true := hcond _ rfl
  have hval : ∀ (j : Nat) t v, Tryd.f10.params[j]? = some t → args[j]? = some v → Value.okWide Tryd.prog W .any base t v := hval0
  have hW' := hW
  obtain ⟨p, q, hA0, hV, rfl, hfz, hnd⟩ := hW
  have hA : DataW.TrodAll enc Tryd.prog W 0 (fun _ => true) true Tryd.f10.params.toList args.toList ds p := hA0
  rw [Tryd.params10] at hA hval
  rw [MakeChecks.laidMetH_plain _ _ _ (by kernel_rfl)] at hL
  obtain ⟨ps, hL, hLn, hLc⟩ := hL
  obtain ⟨v0, vs0, d0, ds0, p0, q0, hargs, rfl, rfl, h0, r0⟩ := trodAll_cons hA
  obtain ⟨rfl, rfl, rfl⟩ := trodAll_nil r0
  obtain rfl : args = #[v0] := by cases args; simp_all
  obtain ⟨rfl, rfl⟩ := trodVars_none hV
  have lt0 : ∀ x ∈ p0, x.block < W.heap.size := by obtain ⟨m, hm⟩ := h0; exact DataW.trod_lt m _ _ _ hm
  obtain ⟨hT4, _, hL⟩ := laid_texts (l := commandWords) hL (by kernel_rfl) (by kernel_rfl) Tryd.underlying167 Tryd.underlying9 (by kernel_rfl) (by decide)
  obtain ⟨hT1, _, hL⟩ := laid_texts (l := testWords) hL (by kernel_rfl) (by kernel_rfl) Tryd.underlying167 Tryd.underlying9 (by kernel_rfl) (by decide)
  obtain ⟨hT3, _, hL⟩ := laid_texts (l := matchWords) hL (by kernel_rfl) (by kernel_rfl) Tryd.underlying137 Tryd.underlying9 (by kernel_rfl) (by decide)
  obtain ⟨hT2, _, hL⟩ := laid_texts (l := partWords) hL (by kernel_rfl) (by kernel_rfl) Tryd.underlying137 Tryd.underlying9 (by kernel_rfl) (by decide)
  have hT : TabC W := ⟨hT1, hT2, hT3, hT4⟩
  obtain ⟨n, l, A, c, rfl, hl, hr, hw⟩ := arg_sliceW (k := kCmd) Tryd.underlying62 (hval 0 _ v0 rfl rfl) h0 opensW_cmds
  replace hw := Nat.le_trans hw (bulk_arg hk (j := 0) rfl)
  refine (scriptShows_walk n A c l W hr hw hT).mono fun e W' ⟨he, bel⟩ => ?_
  subst he
  refine ⟨_, rfl, _, _, _, [], _, [], hW', trodAll_mk1 (shut_bool Tryd.underlying4 _), (trodAll_cons_mk (Below.trod laidOut (by kernel_rfl) (of_decide_eq_true (by kernel_rfl)) h0 bel lt0) trodAll_mk0), rfl, bel.frame _, fun h => by cases h⟩
theorem over : Rows.scriptShowsUptoRow.holds Tryd.pinned (Rows.OpenSpec.upto Rows.scriptShowsSpec) :=
  OpenClaim.holds_of_cond 10 Tryd.f10 rfl rfl rfl rfl rfl rfl rfl ⟨rfl, rfl, rfl, rfl, rfl⟩ rfl rfl rfl rfl rfl (by kernel_rfl) Tryd.func10 (by kernel_rfl)
    (of_decide_eq_true (by kernel_rfl)) (by unfold Func.isWrapper; first | (rw [if_pos (by decide +kernel)]; kernel_rfl) | (rw [if_neg (by decide +kernel)]; exact ⟨rfl, rfl⟩))
    (fun os started H enc _ F => by rw [OpenClaim.pre_eq_preRow]; exact lifted os started H enc F)
theorem card : Rows.ScriptShowsUptoCardSaid :=
  Claim7.holds_tied_plain_at .later [] _ _ _ _ over (fun _ h => by cases h) (by kernel_rfl) (fun _ h => by cases h) scriptShowsUpto_row_tie rfl ⟨rfl, rfl⟩ (by kernel_rfl) rfl
    (fun f fn hf hfn => by
      obtain rfl : f = 10 := Option.some.inj ((show Tryd.prog.funcNamed "postroom/postroomlaw.ScriptShows" = some 10 by kernel_rfl).symm.trans hf) |>.symm
      obtain rfl : fn = Tryd.f10 := (Option.some.inj (Tryd.func10.symm.trans hfn)).symm
      exact ⟨by kernel_rfl, fun j t ht => by
        have hm : t ∈ Tryd.f10.params.toList := by simpa using Array.mem_of_getElem? ht
        have hall : (Tryd.f10.params.toList.all fun u => !Tryd.prog.wantsStandIn u) = true := by kernel_rfl
        exact (show Tryd.prog.wantsStandIn t = false by simpa using List.all_eq_true.1 hall t hm)⟩)
    (by kernel_rfl)
end Go.Proofs.YtijdghplfhfpaaaDoor.scriptShows
namespace Go.Proofs.YtijdghplfhfpaaaDoor
theorem scriptShows_holds : Rows.ScriptShowsUptoCardSaid := scriptShows.card
#print axioms scriptShows_holds
end Go.Proofs.YtijdghplfhfpaaaDoor
