/- Lists of addresses: the reference's addressAt: the walk. -/
import Derived.Test.YtijdghplfhfpaaaDoorListF
namespace Go.Proofs.YtijdghplfhfpaaaDoor.H
open Go.RowKit Go.Proofs.YtijdghplfhfpaaaDoorW.PrintWords Go.Proofs.YtijdghplfhfpaaaDoorW.PrintLast Go.Proofs.YtijdghplfhfpaaaDoorW.PrintMore Go.Proofs.YtijdghplfhfpaaaDoor.U
set_option linter.unusedVariables false
set_option linter.unusedSimpArgs false
/-- An address, and the place behind it. -/
def PostAddr (w : World) (l : List ABit) (R : Option (AAddress × List ABit)) (e : Ending) (w' : World) : Prop :=
  match R with
  | some (a, r) => ∃ d : Nat, e = .returned (.tuple #[.agg #[.string a.loc, .string a.dom], .int .i64 d]) ∧ d ≤ l.length ∧ r = l.drop d ∧ Below w.heap.size w w'
  | none => e = .returned (.tuple #[.agg #[.string ⟨#[]⟩, .string ⟨#[]⟩], .int .i64 (-1)]) ∧ Below w.heap.size w w'
theorem plain_rest {ok : ByteArray → ByteArray → Bool} {l r : List ABit} {i : Nat} {a : AAddress} (h : plainR ok (l.drop i) = some (a, r)) : i + 2 < l.length ∧ r = l.drop (i + 3) := by
  rcases Nat.lt_or_ge (i + 2) l.length with h1 | h1
  · rw [drop3 l i h1, plainR] at h
    split at h
    · cases h; exact ⟨h1, rfl⟩
    · cases h
  · rw [plain_short ok l i h1] at h; cases h
set_option maxHeartbeats 8000000 in
set_option maxRecDepth 100000 in
theorem addressAt_calls (A : Option Addr) (c : Nat) (l : List ABit) (i : Nat) (w : World) (hr : Kd.C kABit w A l.length l) (hi : i ≤ l.length) (hl : l.length ≤ 1048576) (hs : ∀ b ∈ l, b.text.size ≤ 1048576) :
    Calls Tryd.prog 151 #[.slice A l.length c, .int .i64 i] w (PostAddr w l (addrR okAddr (l.drop i))) := by
  generalize hR : addrR okAddr (l.drop i) = R
  unfold addrR at hR
  have HP := fun W hr => plainAt_calls A c l i W hr hi (by omega) hs
  have hpr := fun a r => plain_rest (ok := okAddr) (l := l) (i := i) (a := a) (r := r)
  generalize plainR okAddr (l.drop i) = P at *
  have HP := Lib.hid HP
  cases P with
  | some x =>
    obtain ⟨a, r⟩ := x
    simp only at hR
    subst hR
    obtain ⟨h1, hrr⟩ := hpr a r rfl
    clear hpr
    go_enter Tryd.func151, Tryd.ntmps151
    go_wp2_with fail
    refine (HP.out _ (Kd.C_alloc hr _)).mono ?_
    intro e w1 hw1
    obtain ⟨rfl, hb1⟩ : _ ∧ _ := hw1
    have k1 := (Blk.made w #[.string ⟨#[]⟩, .string ⟨#[]⟩] 49).below hb1 (by simp)
    have z1 := hb1.size
    simp at z1
    have q0 := k1.at 0 _ rfl
    have q1 := k1.at 1 _ rfl
    have p0 := k1.free 0 _ rfl
    have p1 := k1.free 1 _ rfl
    have zl : w.heap.size < w1.heap.size := by omega
    have zn : ¬ w1.heap.size = w.heap.size := by omega
    go_wp2_with fail
    refine bodyPost_ret (v := .tuple #[.agg #[.string a.loc, .string a.dom], .int .i64 ((i : Int) + 3)]) (by simp [results, Tryd.results151, go_sem, *]) rfl ?_
    exact ⟨i + 3, by simp, by omega, hrr, (by repeat (first | exact Below.refl _ _ | apply below_alloc | apply pw_below_drewN | apply below_drew1 | (refine Below.setCell ?_ (by first | (simp; done) | (simp; omega) | omega) _) | (refine below_then ?_ (by first | (simp; done) | (simp; omega) | omega) hb1)))⟩
  | none =>
    simp only at hR
    clear hpr
    go_enter Tryd.func151, Tryd.ntmps151
    go_wp2_with fail
    refine (HP.out _ (Kd.C_alloc hr _)).mono ?_
    intro e w1 hw1
    obtain ⟨rfl, hb1⟩ : _ ∧ _ := hw1
    have z1 := hb1.size
    simp at z1
    have kR := ((Blk.made w #[.string ⟨#[]⟩, .string ⟨#[]⟩] 49).below hb1 (by simp)).alloc (.cells #[.string ⟨#[]⟩, .string ⟨#[]⟩] 49)
    have kT := Blk.made w1 #[.string ⟨#[]⟩, .string ⟨#[]⟩] 49
    have bb : Below w.heap.size w (w1.alloc (.cells #[.string ⟨#[]⟩, .string ⟨#[]⟩] 49)) := (by repeat (first | exact Below.refl _ _ | apply below_alloc | apply pw_below_drewN | apply below_drew1 | (refine Below.setCell ?_ (by first | (simp; done) | (simp; omega) | omega) _) | (refine below_then ?_ (by first | (simp; done) | (simp; omega) | omega) hb1)))
    have hrW := Kd.C_below hr bb
    have zl : w.heap.size < w1.heap.size := by omega
    go_wp2_with fail
    generalize w1.alloc (.cells #[.string ⟨#[]⟩, .string ⟨#[]⟩] 49) = W at *
    clear hb1 z1 HP
    generalize w1.heap.size = b6 at *
    clear w1
    go_loopw [1] (fun v wr => ∃ k : Nat, k ≤ l.length ∧ v = .int .i64 k ∧ angleR okAddr (l.drop k) = R ∧ W = wr) (fun v _ => l.length - (intOf v).toNat)
    case atStart => exact ⟨i, hi, rfl, hR, rfl⟩
    case round =>
      clear hR
      obtain ⟨k, hk, rfl, hR, rfl⟩ := hrel
      have f0 := kR.at 0 _ rfl
      have f1 := kR.at 1 _ rfl
      have f2 := kR.free 0 _ rfl
      have f3 := kR.free 1 _ rfl
      by_cases hlt : k < l.length
      · obtain ⟨ad, e1, x0, xj⟩ := flat_at hrW k hlt
        have p0 := x0 _ rfl; have p1 := xj 1 _ (by decide) rfl; have p2 := xj 2 _ (by decide) rfl; have p3 := xj 3 _ (by decide) rfl
        clear x0 xj
        rw [List.drop_eq_getElem_cons hlt, angleR] at hR
        have i0 : (0 : Int) ≤ (k : Int) := by omega
        have i1 : (k : Int) < (l.length : Int) := by omega
        generalize l[k] = b0 at *
        obtain ⟨t0, u0, v0, a0⟩ := b0
        simp only at p0 p1 p2 p3 hR
        by_cases h1 : u0 = true ∨ v0 = true
        · rw [if_pos h1] at hR
          have hR := Lib.hid hR
          subst e1
          rcases (by cases u0 <;> simp_all : u0 = true ∨ (u0 = false ∧ v0 = true)) with rfl | ⟨rfl, rfl⟩
          all_goals
            clear h1
            go_wp2_with fail
            go_roundw
            case rel => exact ⟨k + 1, hlt, by go_num, hR.out, by trivial⟩
            case measure => simp [intOf]; omega
        · rw [if_neg h1] at hR
          obtain ⟨rfl, rfl⟩ : u0 = false ∧ v0 = false := by cases u0 <;> cases v0 <;> simp_all
          clear h1
          by_cases h60 : t0 = ⟨#[60]⟩
          · rw [if_pos h60] at hR
            have q60 := lit_yes (l := [60]) h60
            have HP := fun W hr => plainAt_calls A c l (k + 1) W hr hlt (by omega) hs
            have hpr := fun a r => plain_rest (ok := okAddr) (l := l) (i := k + 1) (a := a) (r := r)
            clear h60
            subst e1
            have had : ad.block < w.heap.size := by
              obtain ⟨ad', e1, y0, _⟩ := flat_at hr k hlt
              obtain rfl := Option.some.inj e1
              have := lt_of_cell' (y0 _ rfl)
              rwa [add_block] at this
            generalize plainR okAddr (l.drop (k + 1)) = P2 at *
            have HP := Lib.hid HP
            cases P2 with
            | none =>
              simp only at hR
              subst hR
              go_wp2_with fail
              refine (HP.out _ hrW).mono ?_
              intro e w2 hw2
              obtain ⟨rfl, hb2⟩ : _ ∧ _ := hw2
              have kR2 := kR.below hb2 kR.lt
              have kT2 := kT.below hb2 kT.lt
              have bb2 := bb.trans (hb2.mono bb.size)
              have g0 := kR2.at 0 _ rfl
              have g1 := kR2.at 1 _ rfl
              have g2 := kR2.free 0 _ rfl
              have g3 := kR2.free 1 _ rfl
              have g4 := kT2.at 0 _ rfl
              have g5 := kT2.at 1 _ rfl
              have g6 := kT2.free 0 _ rfl
              have g7 := kT2.free 1 _ rfl
              have n1 : ¬ b6 = w.heap.size := by omega
              have n2 : ¬ w.heap.size = b6 := by omega
              go_wp2_with fail
              refine bodyPost_ret (v := .tuple #[.agg #[.string ⟨#[]⟩, .string ⟨#[]⟩], .int .i64 (-1)]) (by simp [results, Tryd.results151, go_sem, *]) rfl ?_
              exact ⟨rfl, (by repeat (first | exact Below.refl _ _ | apply below_alloc | apply pw_below_drewN | apply below_drew1 | (refine Below.setCell ?_ (by first | (simp; done) | (simp; omega) | omega) _) | exact bb2))⟩
            | some x =>
              obtain ⟨a, rest⟩ := x
              obtain ⟨hk3, hrest⟩ := hpr a rest rfl
              clear hpr
              have hhead : (l.drop (k + 1)).head? = some l[k + 1] := by rw [List.drop_eq_getElem_cons (by omega : k + 1 < l.length)]; rfl
              rw [hhead] at hR
              clear hhead
              obtain ⟨ad1, e1, y0, yj⟩ := flat_at hrW (k + 1) (by omega)
              obtain rfl := Option.some.inj e1
              have y3 := yj 3 _ (by decide) rfl
              clear y0 yj
              have i3 : (k : Int) + 1 < (l.length : Int) := by omega
              by_cases hk4 : k + 1 + 4 - 1 < l.length
              · obtain ⟨ad2, e2, v0_, vj⟩ := flat_at hrW (k + 4) (by omega)
                obtain rfl := Option.some.inj e2
                have v0 := v0_ _ rfl
                have v3 := vj 3 _ (by decide) rfl
                clear v0_ vj
                rw [show k + 1 + 3 = k + 4 by omega, List.drop_eq_getElem_cons (by omega : k + 4 < l.length)] at hrest
                subst hrest
                simp only at hR
                have i4 : (k : Int) + 4 < (l.length : Int) := by omega
                generalize l[k + 1] = b1 at *
                generalize l[k + 4] = g at *
                obtain ⟨t1, u1, w1_, a1⟩ := b1
                obtain ⟨tg, ug, vg, ag⟩ := g
                simp only at y3 v0 v3 hR
                have hR := Lib.hid hR
                cases a1 with
                | true =>
                  obtain rfl : none = R := by simpa using hR.out
                  go_wp2_with fail
                  refine (HP.out _ hrW).mono ?_
                  intro e w2 hw2
                  obtain ⟨rfl, hb2⟩ : _ ∧ _ := hw2
                  have kR2 := kR.below hb2 kR.lt
                  have kT2 := kT.below hb2 kT.lt
                  have bb2 := bb.trans (hb2.mono bb.size)
                  have g0 := kR2.at 0 _ rfl
                  have g1 := kR2.at 1 _ rfl
                  have g2 := kR2.free 0 _ rfl
                  have g3 := kR2.free 1 _ rfl
                  have g4 := kT2.at 0 _ rfl
                  have g5 := kT2.at 1 _ rfl
                  have g6 := kT2.free 0 _ rfl
                  have g7 := kT2.free 1 _ rfl
                  have n1 : ¬ b6 = w.heap.size := by omega
                  have n2 : ¬ w.heap.size = b6 := by omega
                  have y3' := cell_other' (c := b6) (j := 1) (cell_other' (c := b6) (j := 0) ((hb2.cell (lt_of_cell' y3)).trans y3) (by simp [add_block]; omega) (.string a.loc)) (by simp [add_block]; omega) (.string a.dom)
                  try have v0' := cell_other' (c := b6) (j := 1) (cell_other' (c := b6) (j := 0) ((hb2.cell (lt_of_cell' v0)).trans v0) (by simp [add_block]; omega) (.string a.loc)) (by simp [add_block]; omega) (.string a.dom)
                  try have v3' := cell_other' (c := b6) (j := 1) (cell_other' (c := b6) (j := 0) ((hb2.cell (lt_of_cell' v3)).trans v3) (by simp [add_block]; omega) (.string a.loc)) (by simp [add_block]; omega) (.string a.dom)
                  go_wp2_with fail
                  refine bodyPost_ret (v := .tuple #[.agg #[.string ⟨#[]⟩, .string ⟨#[]⟩], .int .i64 (-1)]) (by simp [results, Tryd.results151, go_sem, *]) rfl ?_
                  exact ⟨rfl, (by repeat (first | exact Below.refl _ _ | apply below_alloc | apply pw_below_drewN | apply below_drew1 | (refine Below.setCell ?_ (by first | (simp; done) | (simp; omega) | omega) _) | exact bb2))⟩
                | false =>
                  by_cases ht : tg = ⟨#[62]⟩
                  · have q62 := lit_yes (l := [62]) ht
                    cases ag with
                    | true =>
                      obtain rfl : none = R := by simpa using hR.out
                      clear ht
                      go_wp2_with fail
                      refine (HP.out _ hrW).mono ?_
                      intro e w2 hw2
                      obtain ⟨rfl, hb2⟩ : _ ∧ _ := hw2
                      have kR2 := kR.below hb2 kR.lt
                      have kT2 := kT.below hb2 kT.lt
                      have bb2 := bb.trans (hb2.mono bb.size)
                      have g0 := kR2.at 0 _ rfl
                      have g1 := kR2.at 1 _ rfl
                      have g2 := kR2.free 0 _ rfl
                      have g3 := kR2.free 1 _ rfl
                      have g4 := kT2.at 0 _ rfl
                      have g5 := kT2.at 1 _ rfl
                      have g6 := kT2.free 0 _ rfl
                      have g7 := kT2.free 1 _ rfl
                      have n1 : ¬ b6 = w.heap.size := by omega
                      have n2 : ¬ w.heap.size = b6 := by omega
                      have y3' := cell_other' (c := b6) (j := 1) (cell_other' (c := b6) (j := 0) ((hb2.cell (lt_of_cell' y3)).trans y3) (by simp [add_block]; omega) (.string a.loc)) (by simp [add_block]; omega) (.string a.dom)
                      try have v0' := cell_other' (c := b6) (j := 1) (cell_other' (c := b6) (j := 0) ((hb2.cell (lt_of_cell' v0)).trans v0) (by simp [add_block]; omega) (.string a.loc)) (by simp [add_block]; omega) (.string a.dom)
                      try have v3' := cell_other' (c := b6) (j := 1) (cell_other' (c := b6) (j := 0) ((hb2.cell (lt_of_cell' v3)).trans v3) (by simp [add_block]; omega) (.string a.loc)) (by simp [add_block]; omega) (.string a.dom)
                      go_wp2_with fail
                      refine bodyPost_ret (v := .tuple #[.agg #[.string ⟨#[]⟩, .string ⟨#[]⟩], .int .i64 (-1)]) (by simp [results, Tryd.results151, go_sem, *]) rfl ?_
                      exact ⟨rfl, (by repeat (first | exact Below.refl _ _ | apply below_alloc | apply pw_below_drewN | apply below_drew1 | (refine Below.setCell ?_ (by first | (simp; done) | (simp; omega) | omega) _) | exact bb2))⟩
                    | false =>
                      obtain rfl : some (a, l.drop (k + 5)) = R := by simpa [ht] using hR.out
                      clear ht
                      go_wp2_with fail
                      refine (HP.out _ hrW).mono ?_
                      intro e w2 hw2
                      obtain ⟨rfl, hb2⟩ : _ ∧ _ := hw2
                      have kR2 := kR.below hb2 kR.lt
                      have kT2 := kT.below hb2 kT.lt
                      have bb2 := bb.trans (hb2.mono bb.size)
                      have g0 := kR2.at 0 _ rfl
                      have g1 := kR2.at 1 _ rfl
                      have g2 := kR2.free 0 _ rfl
                      have g3 := kR2.free 1 _ rfl
                      have g4 := kT2.at 0 _ rfl
                      have g5 := kT2.at 1 _ rfl
                      have g6 := kT2.free 0 _ rfl
                      have g7 := kT2.free 1 _ rfl
                      have n1 : ¬ b6 = w.heap.size := by omega
                      have n2 : ¬ w.heap.size = b6 := by omega
                      have y3' := cell_other' (c := b6) (j := 1) (cell_other' (c := b6) (j := 0) ((hb2.cell (lt_of_cell' y3)).trans y3) (by simp [add_block]; omega) (.string a.loc)) (by simp [add_block]; omega) (.string a.dom)
                      try have v0' := cell_other' (c := b6) (j := 1) (cell_other' (c := b6) (j := 0) ((hb2.cell (lt_of_cell' v0)).trans v0) (by simp [add_block]; omega) (.string a.loc)) (by simp [add_block]; omega) (.string a.dom)
                      try have v3' := cell_other' (c := b6) (j := 1) (cell_other' (c := b6) (j := 0) ((hb2.cell (lt_of_cell' v3)).trans v3) (by simp [add_block]; omega) (.string a.loc)) (by simp [add_block]; omega) (.string a.dom)
                      go_wp2_with fail
                      refine bodyPost_ret (v := .tuple #[.agg #[.string a.loc, .string a.dom], .int .i64 ((k : Int) + 5)]) (by simp [results, Tryd.results151, go_sem, *]) rfl ?_
                      exact ⟨k + 5, by simp, by omega, rfl, (by repeat (first | exact Below.refl _ _ | apply below_alloc | apply pw_below_drewN | apply below_drew1 | (refine Below.setCell ?_ (by first | (simp; done) | (simp; omega) | omega) _) | exact bb2))⟩
                  · have q62 := lit_no (l := [62]) ht
                    obtain rfl : none = R := by simpa [ht] using hR.out
                    clear ht
                    go_wp2_with fail
                    refine (HP.out _ hrW).mono ?_
                    intro e w2 hw2
                    obtain ⟨rfl, hb2⟩ : _ ∧ _ := hw2
                    have kR2 := kR.below hb2 kR.lt
                    have kT2 := kT.below hb2 kT.lt
                    have bb2 := bb.trans (hb2.mono bb.size)
                    have g0 := kR2.at 0 _ rfl
                    have g1 := kR2.at 1 _ rfl
                    have g2 := kR2.free 0 _ rfl
                    have g3 := kR2.free 1 _ rfl
                    have g4 := kT2.at 0 _ rfl
                    have g5 := kT2.at 1 _ rfl
                    have g6 := kT2.free 0 _ rfl
                    have g7 := kT2.free 1 _ rfl
                    have n1 : ¬ b6 = w.heap.size := by omega
                    have n2 : ¬ w.heap.size = b6 := by omega
                    have y3' := cell_other' (c := b6) (j := 1) (cell_other' (c := b6) (j := 0) ((hb2.cell (lt_of_cell' y3)).trans y3) (by simp [add_block]; omega) (.string a.loc)) (by simp [add_block]; omega) (.string a.dom)
                    try have v0' := cell_other' (c := b6) (j := 1) (cell_other' (c := b6) (j := 0) ((hb2.cell (lt_of_cell' v0)).trans v0) (by simp [add_block]; omega) (.string a.loc)) (by simp [add_block]; omega) (.string a.dom)
                    try have v3' := cell_other' (c := b6) (j := 1) (cell_other' (c := b6) (j := 0) ((hb2.cell (lt_of_cell' v3)).trans v3) (by simp [add_block]; omega) (.string a.loc)) (by simp [add_block]; omega) (.string a.dom)
                    go_wp2_with fail
                    refine bodyPost_ret (v := .tuple #[.agg #[.string ⟨#[]⟩, .string ⟨#[]⟩], .int .i64 (-1)]) (by simp [results, Tryd.results151, go_sem, *]) rfl ?_
                    exact ⟨rfl, (by repeat (first | exact Below.refl _ _ | apply below_alloc | apply pw_below_drewN | apply below_drew1 | (refine Below.setCell ?_ (by first | (simp; done) | (simp; omega) | omega) _) | exact bb2))⟩
              · rw [List.drop_eq_nil_of_le (by omega)] at hrest
                subst hrest
                simp only at hR
                subst hR
                have i4 : (l.length : Int) ≤ (k : Int) + 4 := by omega
                generalize l[k + 1] = b1 at *
                obtain ⟨t1, u1, w1_, a1⟩ := b1
                simp only at y3
                cases a1 with
                | true =>
                  go_wp2_with fail
                  refine (HP.out _ hrW).mono ?_
                  intro e w2 hw2
                  obtain ⟨rfl, hb2⟩ : _ ∧ _ := hw2
                  have kR2 := kR.below hb2 kR.lt
                  have kT2 := kT.below hb2 kT.lt
                  have bb2 := bb.trans (hb2.mono bb.size)
                  have g0 := kR2.at 0 _ rfl
                  have g1 := kR2.at 1 _ rfl
                  have g2 := kR2.free 0 _ rfl
                  have g3 := kR2.free 1 _ rfl
                  have g4 := kT2.at 0 _ rfl
                  have g5 := kT2.at 1 _ rfl
                  have g6 := kT2.free 0 _ rfl
                  have g7 := kT2.free 1 _ rfl
                  have n1 : ¬ b6 = w.heap.size := by omega
                  have n2 : ¬ w.heap.size = b6 := by omega
                  have y3' := cell_other' (c := b6) (j := 1) (cell_other' (c := b6) (j := 0) ((hb2.cell (lt_of_cell' y3)).trans y3) (by simp [add_block]; omega) (.string a.loc)) (by simp [add_block]; omega) (.string a.dom)
                  try have v0' := cell_other' (c := b6) (j := 1) (cell_other' (c := b6) (j := 0) ((hb2.cell (lt_of_cell' v0)).trans v0) (by simp [add_block]; omega) (.string a.loc)) (by simp [add_block]; omega) (.string a.dom)
                  try have v3' := cell_other' (c := b6) (j := 1) (cell_other' (c := b6) (j := 0) ((hb2.cell (lt_of_cell' v3)).trans v3) (by simp [add_block]; omega) (.string a.loc)) (by simp [add_block]; omega) (.string a.dom)
                  go_wp2_with fail
                  refine bodyPost_ret (v := .tuple #[.agg #[.string ⟨#[]⟩, .string ⟨#[]⟩], .int .i64 (-1)]) (by simp [results, Tryd.results151, go_sem, *]) rfl ?_
                  exact ⟨rfl, (by repeat (first | exact Below.refl _ _ | apply below_alloc | apply pw_below_drewN | apply below_drew1 | (refine Below.setCell ?_ (by first | (simp; done) | (simp; omega) | omega) _) | exact bb2))⟩
                | false =>
                  go_wp2_with fail
                  refine (HP.out _ hrW).mono ?_
                  intro e w2 hw2
                  obtain ⟨rfl, hb2⟩ : _ ∧ _ := hw2
                  have kR2 := kR.below hb2 kR.lt
                  have kT2 := kT.below hb2 kT.lt
                  have bb2 := bb.trans (hb2.mono bb.size)
                  have g0 := kR2.at 0 _ rfl
                  have g1 := kR2.at 1 _ rfl
                  have g2 := kR2.free 0 _ rfl
                  have g3 := kR2.free 1 _ rfl
                  have g4 := kT2.at 0 _ rfl
                  have g5 := kT2.at 1 _ rfl
                  have g6 := kT2.free 0 _ rfl
                  have g7 := kT2.free 1 _ rfl
                  have n1 : ¬ b6 = w.heap.size := by omega
                  have n2 : ¬ w.heap.size = b6 := by omega
                  have y3' := cell_other' (c := b6) (j := 1) (cell_other' (c := b6) (j := 0) ((hb2.cell (lt_of_cell' y3)).trans y3) (by simp [add_block]; omega) (.string a.loc)) (by simp [add_block]; omega) (.string a.dom)
                  try have v0' := cell_other' (c := b6) (j := 1) (cell_other' (c := b6) (j := 0) ((hb2.cell (lt_of_cell' v0)).trans v0) (by simp [add_block]; omega) (.string a.loc)) (by simp [add_block]; omega) (.string a.dom)
                  try have v3' := cell_other' (c := b6) (j := 1) (cell_other' (c := b6) (j := 0) ((hb2.cell (lt_of_cell' v3)).trans v3) (by simp [add_block]; omega) (.string a.loc)) (by simp [add_block]; omega) (.string a.dom)
                  go_wp2_with fail
                  refine bodyPost_ret (v := .tuple #[.agg #[.string ⟨#[]⟩, .string ⟨#[]⟩], .int .i64 (-1)]) (by simp [results, Tryd.results151, go_sem, *]) rfl ?_
                  exact ⟨rfl, (by repeat (first | exact Below.refl _ _ | apply below_alloc | apply pw_below_drewN | apply below_drew1 | (refine Below.setCell ?_ (by first | (simp; done) | (simp; omega) | omega) _) | exact bb2))⟩
          · rw [if_neg h60] at hR
            have q60 := lit_no (l := [60]) h60
            subst hR e1
            clear h60
            go_wp2_with fail
            refine bodyPost_ret (v := .tuple #[.agg #[.string ⟨#[]⟩, .string ⟨#[]⟩], .int .i64 (-1)]) (by simp [results, Tryd.results151, go_sem, *]) rfl ?_
            exact ⟨rfl, (by repeat (first | exact Below.refl _ _ | apply below_alloc | apply pw_below_drewN | apply below_drew1 | (refine Below.setCell ?_ (by first | (simp; done) | (simp; omega) | omega) _) | exact bb))⟩
      · obtain rfl : k = l.length := by omega
        rw [List.drop_eq_nil_of_le (Nat.le_refl _), angleR] at hR
        subst hR
        go_wp2_with fail
        refine bodyPost_ret (v := .tuple #[.agg #[.string ⟨#[]⟩, .string ⟨#[]⟩], .int .i64 (-1)]) (by simp [results, Tryd.results151, go_sem, *]) rfl ?_
        exact ⟨rfl, (by repeat (first | exact Below.refl _ _ | apply below_alloc | apply pw_below_drewN | apply below_drew1 | (refine Below.setCell ?_ (by first | (simp; done) | (simp; omega) | omega) _) | exact bb))⟩
end Go.Proofs.YtijdghplfhfpaaaDoor.H
