/- Boxes: the reference's StateFault: the walk. -/
import Derived.Test.YtijdghplfhfpaaaDoorBoxG
import Derived.Test.YtijdghplfhfpaaaDoorBoxC
import Derived.Deep.QuietTactic
namespace Go.Proofs.YtijdghplfhfpaaaDoor.H
open Go.RowKit Go.Proofs.YtijdghplfhfpaaaDoorW.PrintWords Go.Proofs.YtijdghplfhfpaaaDoorW.PrintLast Go.Proofs.YtijdghplfhfpaaaDoorW.PrintMore Go.Proofs.YtijdghplfhfpaaaDoor.U
set_option linter.unusedVariables false
set_option linter.unusedSimpArgs false
set_option maxHeartbeats 2000000 in
set_option maxRecDepth 100000 in
theorem stateFault_calls (A : Option Addr) (c : Nat) (bs : List ABox) (A2 : Option Addr) (c2 : Nat) (es : List AEntry) (w : World) (hr : kBox.C w A bs.length bs) (hc : bs.length ≤ c) (hr2 : Kd.C kAEntry w A2 es.length es) (hs : okSt bs es) :
    Calls Tryd.prog 15 #[.agg #[.slice A bs.length c, .slice A2 es.length c2]] w fun e w' => e = .returned (.int .i64 (stFault bs es)) ∧ Below w.heap.size w w' := by
  have h63 := hr.2.1
  have h64 := hr2.2.1
  by_cases hlen : 5 < bs.length ∨ 20 < es.length
  · rw [stFault, if_pos hlen]
    by_cases h1 : 5 < bs.length
    · have h1' : (5 : Int) < (bs.length : Int) := by omega
      go_enter Tryd.func15, Tryd.ntmps15
      go_wp2_with fail
      go_ret
      exact ⟨(by first | rfl | (simp; done) | (simp [*]; done) | (rw [if_pos (by omega)]; first | rfl | (simp; done)) | (rw [if_neg (by omega)]; first | rfl | (simp; done)) | (simp; omega)), (by repeat (first | exact Below.refl _ _ | apply below_alloc | apply pw_below_drewN | apply below_drew1 | (refine Below.setCell ?_ (by first | (simp; done) | (simp; omega) | omega) _) ))⟩
    · have h1' : ¬ (5 : Int) < (bs.length : Int) := by omega
      have h2' : (20 : Int) < (es.length : Int) := by omega
      go_enter Tryd.func15, Tryd.ntmps15
      go_wp2_with fail
      go_ret
      exact ⟨(by first | rfl | (simp; done) | (simp [*]; done) | (rw [if_pos (by omega)]; first | rfl | (simp; done)) | (rw [if_neg (by omega)]; first | rfl | (simp; done)) | (simp; omega)), (by repeat (first | exact Below.refl _ _ | apply below_alloc | apply pw_below_drewN | apply below_drew1 | (refine Below.setCell ?_ (by first | (simp; done) | (simp; omega) | omega) _) ))⟩
  · rw [stFault, if_neg hlen]
    have h1' : ¬ (5 : Int) < (bs.length : Int) := by omega
    have h2' : ¬ (20 : Int) < (es.length : Int) := by omega
    have hl5 : bs.length ≤ 5 := by omega
    generalize hR : stTail bs es = R
    have hk0 := Blk.made w #[.slice A bs.length c, .slice A2 es.length c2] 25
    have hB0 : Below w.heap.size w (w.alloc (.cells #[.slice A bs.length c, .slice A2 es.length c2] 25)) := (by repeat (first | exact Below.refl _ _ | apply below_alloc | apply pw_below_drewN | apply below_drew1 | (refine Below.setCell ?_ (by first | (simp; done) | (simp; omega) | omega) _) ))
    clear hlen
    go_enter Tryd.func15, Tryd.ntmps15
    go_wp2_with fail
    go_loopw [3] (fun i wr => ∃ k : Nat, k ≤ bs.length ∧ i = .int .i64 k ∧ (boxesFrom bs k = true → boxesFrom bs 0 = true) ∧ (boxesFrom bs k = false → R = 11) ∧ Blk wr w.heap.size [.slice A bs.length c, .slice A2 es.length c2] ∧ Below w.heap.size w wr) (fun i _ => bs.length - (intOf i).toNat)
    case atStart => exact ⟨0, Nat.zero_le _, rfl, id, (fun h => by rw [← hR, stTail, if_neg (by rw [h]; decide)]), hk0, hB0⟩
    case round =>
      clear hk0 hB0
      obtain ⟨k, hk, rfl, hyes, hno, hblk, hB⟩ := hrel
      have hz := hblk.lt
      have b0 := hblk.at 0 _ rfl
      by_cases hlt : k < bs.length
      · obtain ⟨ad, Ae, ce, e1, x0, x1, x2, hC⟩ := box_at (Kd.C_below hr hB) k hlt
        subst e1
        rw [add1] at x1
        rw [add2] at x2
        have i0 : (0 : Int) ≤ (k : Int) := by omega
        have i1 : (k : Int) < (bs.length : Int) := by omega
        have hsz := hs.1 _ (List.getElem_mem hlt)
        have hbd := fun h => boxes_bad hlt h
        have hgd := fun h h2 => boxes_good hlt h h2
        obtain ⟨nm, nx, l, hbk⟩ : ∃ nm nx l, bs[k] = (nm, nx, l) := ⟨_, _, _, rfl⟩
        rw [hbk] at x0 x1 x2 hC hsz hbd hgd
        simp only at x0 x1 x2 hC hsz hbd hgd
        clear hbk
        have htk : (bs.take k).length = k := by rw [List.length_take]; omega
        have HF := fun w hr' => boxOf_calls (some ad) c (bs.take k) nm w hr'
        rw [htk] at HF
        have HN := fun w => boxName_calls nm w (by omega)
        have hl3 := hC.2.1
        have i2 : (k : Int) ≤ (c : Int) := by omega
        have hCq := C_pre (Kd.C_below hr (show Below w.heap.size w (wr.alloc (.cells #[.string nm, .int .i64 nx, .slice Ae l.length ce] 77)) from (by repeat (first | exact Below.refl _ _ | apply below_alloc | apply pw_below_drewN | apply below_drew1 | (refine Below.setCell ?_ (by first | (simp; done) | (simp; omega) | omega) _) | exact hB)))) k hk
        generalize findG nm (bs.take k) 0 = fi at *
        replace HF := Lib.hid HF
        by_cases hn : nameFault nm = 0
        · rw [hn] at HN
          replace HN := Lib.hid HN
          by_cases hfi : fi < 0
          · by_cases hx1 : nx < 1 ∨ 1048577 < nx
            · have hR11 := hno (hbd (fun h => by have := h.1; unfold boxOk at this; rw [if_pos (by rcases hx1 with h | h; exact .inr (.inl h); exact .inr (.inr (.inl h)))] at this; cases this))
              subst hR11
              have hfi' : ¬ 0 ≤ fi := by omega
              clear hbd hgd hyes hno hn
              go_wp2_with fail
              go_quiet ((first | (go_at_call 50; exact quiet_eq (HN.out _)) | (go_at_call 51; exact quiet_eq (HF.out _ (Kd.C_below hCq (by first | exact Below.refl _ _ | exact pw_below_drewN (Below.refl _ _) _)))) | (go_at_call 52; first | exact quiet_eq (in_yes _ _ _ _ (by omega) (by omega)) | exact quiet_eq (in_no _ _ _ _ (by omega)))))
              go_wp2_with fail
              go_ret
              exact ⟨(by first | rfl | (simp; done) | (simp [*]; done) | (rw [if_pos (by omega)]; first | rfl | (simp; done)) | (rw [if_neg (by omega)]; first | rfl | (simp; done)) | (simp; omega)), (by repeat (first | exact Below.refl _ _ | apply below_alloc | apply pw_below_drewN | apply below_drew1 | (refine Below.setCell ?_ (by first | (simp; done) | (simp; omega) | omega) _) | exact hB))⟩
            · have hfi' : ¬ 0 ≤ fi := by omega
              by_cases hl30 : 30 < l.length
              · have hR11 := hno (hbd (fun h => by have := h.1; unfold boxOk at this; rw [if_pos (.inr (.inr (.inr hl30)))] at this; cases this))
                subst hR11
                have hl30' : (30 : Int) < (l.length : Int) := by omega
                clear hbd hgd hyes hno hn
                go_wp2_with fail
                go_quiet ((first | (go_at_call 50; exact quiet_eq (HN.out _)) | (go_at_call 51; exact quiet_eq (HF.out _ (Kd.C_below hCq (by first | exact Below.refl _ _ | exact pw_below_drewN (Below.refl _ _) _)))) | (go_at_call 52; first | exact quiet_eq (in_yes _ _ _ _ (by omega) (by omega)) | exact quiet_eq (in_no _ _ _ _ (by omega)))))
                go_wp2_with fail
                go_ret
                exact ⟨(by first | rfl | (simp; done) | (simp [*]; done) | (rw [if_pos (by omega)]; first | rfl | (simp; done)) | (rw [if_neg (by omega)]; first | rfl | (simp; done)) | (simp; omega)), (by repeat (first | exact Below.refl _ _ | apply below_alloc | apply pw_below_drewN | apply below_drew1 | (refine Below.setCell ?_ (by first | (simp; done) | (simp; omega) | omega) _) | exact hB))⟩
              · have hl30' : ¬ (30 : Int) < (l.length : Int) := by omega
                have hbo : boxOk (nm, nx, l) = mailsOk nx 0 l := by
                  unfold boxOk
                  rw [if_neg (by intro h; rcases h with h | h | h | h; exact h hn; exact hx1 (.inl h); exact hx1 (.inr h); exact hl30 h)]
                rw [hbo] at hbd hgd
                clear hbo hn
                have hbdh := Lib.hid (fun (h : mailsOk nx 0 l = false) => hno (hbd (fun h2 => by rw [h] at h2; cases h2.1)))
                have hgdh := Lib.hid (fun (h : mailsOk nx 0 l = true) => hgd h hfi)
                replace hyes := Lib.hid hyes
                replace hno := Lib.hid hno
                clear hbd hgd
                go_wp2_with fail
                go_quiet ((first | (go_at_call 50; exact quiet_eq (HN.out _)) | (go_at_call 51; exact quiet_eq (HF.out _ (Kd.C_below hCq (by first | exact Below.refl _ _ | exact pw_below_drewN (Below.refl _ _) _)))) | (go_at_call 52; first | exact quiet_eq (in_yes _ _ _ _ (by omega) (by omega)) | exact quiet_eq (in_no _ _ _ _ (by omega)))))
                obtain ⟨Wq, hWq⟩ : ∃ Wq : World, Wq = (wr.alloc (.cells #[.string nm, .int .i64 nx, .slice Ae l.length ce] 77)).drewN nq := ⟨_, rfl⟩
                have hbx : Below wr.heap.size wr Wq := by rw [hWq]; exact (by repeat (first | exact Below.refl _ _ | apply below_alloc | apply pw_below_drewN | apply below_drew1 | (refine Below.setCell ?_ (by first | (simp; done) | (simp; omega) | omega) _) ))
                have hX : Blk Wq wr.heap.size [.string nm, .int .i64 nx, .slice Ae l.length ce] := by rw [hWq]; exact (Blk.made wr _ _).below (show Below (wr.heap.size + 1) _ _ from (by repeat (first | exact Below.refl _ _ | apply below_alloc | apply pw_below_drewN | apply below_drew1 | (refine Below.setCell ?_ (by first | (simp; done) | (simp; omega) | omega) _) ))) (Nat.lt_succ_self _)
                have hblkq := hblk.below hbx hz
                have hBq := hB.trans (hbx.mono (by omega))
                have hCl := Kd.C_below hC hbx
                rw [← hWq]
                replace hWq := Lib.hid hWq
                have hzx := hX.lt
                clear hblk b0 x0 x1 x2 hC hCq
                obtain ⟨W0, hW0⟩ : ∃ W0 : World, W0 = wr := ⟨_, rfl⟩
                generalize wr.heap.size = bb at *
                go_wp2_with fail
                go_loopw [5] (fun i wz => ∃ (j : Nat) (last : Int), j ≤ l.length ∧ i = .int .i64 j ∧ mailsOk nx last (l.drop j) = mailsOk nx 0 l ∧ 0 ≤ last ∧ (j = 0 → last = 0) ∧ (∀ (h : 0 < j) (h2 : j - 1 < l.length), last = l[j - 1].uid) ∧ Blk wz bb [.string nm, .int .i64 nx, .slice Ae l.length ce] ∧ Blk wz w.heap.size [.slice (some ad) bs.length c, .slice A2 es.length c2] ∧ Below Wq.heap.size Wq wz) (fun i _ => l.length - (intOf i).toNat)
                case atStart => exact ⟨0, 0, Nat.zero_le _, rfl, rfl, Int.le_refl _, fun _ => rfl, fun h => absurd h (Nat.lt_irrefl _), hX, hblkq, Below.refl _ _⟩
                case round =>
                  obtain ⟨j, last, hj, rfl, hmo, hl0, hj0, hjp, hXz, hblkz, hBz⟩ := hrel
                  clear hX hblkq
                  have hBzz := hBq.trans (hBz.mono (by omega))
                  have bx1 := hXz.at 1 _ rfl
                  have bx2 := hXz.at 2 _ rfl
                  by_cases hlj : j < l.length
                  · obtain ⟨ad2, e2, hx0, hxj⟩ := flat_at (Kd.C_below hCl hBz) j hlj
                    subst e2
                    have q0 := hx0 _ rfl; have q1 := hxj 1 _ (by decide) rfl; have q2 := hxj 2 _ (by decide) rfl
                    clear hx0 hxj
                    have hbd2 := fun h => mails_bad (next := nx) (last := last) hlj h
                    have hgd2 := fun h => mails_good (next := nx) (last := last) hlj h
                    rw [hmo] at hbd2 hgd2
                    clear hmo
                    have j0 : (0 : Int) ≤ (j : Int) := by omega
                    have j1 : (j : Int) < (l.length : Int) := by omega
                    have hzz := hXz.lt
                    have wn : IntKind.i64.wrap (nx - 1) = nx - 1 := by rw [IntKind.wrap_i64]; omega
                    rcases Nat.eq_zero_or_pos j with hjz | hjz
                    · have hl00 := hj0 hjz
                      subst hl00
                      have jz : decide (0 < j) = false := decide_eq_false (by omega)
                      clear hjp hj0
                      replace hjz := Lib.hid hjz
                      generalize hlx : l[j] = x at *
                      replace hlx := Lib.hid hlx
                      by_cases g1 : x.uid ≤ 0
                      · have hR11 := hbdh.out (hbd2 (.inl g1))
                        subst hR11
                        clear hbd2 hgd2
                        go_wp2_with fail
                        go_quiet ((go_at_call 52; first | exact quiet_eq (in_yes _ _ _ _ (by omega) (by omega)) | exact quiet_eq (in_no _ _ _ _ (by omega))))
                        go_wp2_with fail
                        go_ret
                        exact ⟨(by first | rfl | (simp; done) | (simp [*]; done) | (rw [if_pos (by omega)]; first | rfl | (simp; done)) | (rw [if_neg (by omega)]; first | rfl | (simp; done)) | (simp; omega)), (by repeat (first | exact Below.refl _ _ | apply below_alloc | apply pw_below_drewN | apply below_drew1 | (refine Below.setCell ?_ (by first | (simp; done) | (simp; omega) | omega) _) | exact hBzz))⟩
                      · by_cases g2 : nx ≤ x.uid
                        · have hR11 := hbdh.out (hbd2 (.inr (.inl g2)))
                          subst hR11
                          clear hbd2 hgd2
                          go_wp2_with fail
                          go_quiet ((go_at_call 52; first | exact quiet_eq (in_yes _ _ _ _ (by omega) (by omega)) | exact quiet_eq (in_no _ _ _ _ (by omega))))
                          go_wp2_with fail
                          go_ret
                          exact ⟨(by first | rfl | (simp; done) | (simp [*]; done) | (rw [if_pos (by omega)]; first | rfl | (simp; done)) | (rw [if_neg (by omega)]; first | rfl | (simp; done)) | (simp; omega)), (by repeat (first | exact Below.refl _ _ | apply below_alloc | apply pw_below_drewN | apply below_drew1 | (refine Below.setCell ?_ (by first | (simp; done) | (simp; omega) | omega) _) | exact hBzz))⟩
                        · by_cases g3 : x.flags < 0
                          · have hR11 := hbdh.out (hbd2 (.inr (.inr (.inl g3))))
                            subst hR11
                            clear hbd2 hgd2
                            go_wp2_with fail
                            go_quiet ((go_at_call 52; first | exact quiet_eq (in_yes _ _ _ _ (by omega) (by omega)) | exact quiet_eq (in_no _ _ _ _ (by omega))))
                            go_wp2_with fail
                            go_ret
                            exact ⟨(by first | rfl | (simp; done) | (simp [*]; done) | (rw [if_pos (by omega)]; first | rfl | (simp; done)) | (rw [if_neg (by omega)]; first | rfl | (simp; done)) | (simp; omega)), (by repeat (first | exact Below.refl _ _ | apply below_alloc | apply pw_below_drewN | apply below_drew1 | (refine Below.setCell ?_ (by first | (simp; done) | (simp; omega) | omega) _) | exact hBzz))⟩
                          · by_cases g4 : 31 < x.flags
                            · have hR11 := hbdh.out (hbd2 (.inr (.inr (.inr (.inl g4)))))
                              subst hR11
                              clear hbd2 hgd2
                              go_wp2_with fail
                              go_quiet ((go_at_call 52; first | exact quiet_eq (in_yes _ _ _ _ (by omega) (by omega)) | exact quiet_eq (in_no _ _ _ _ (by omega))))
                              go_wp2_with fail
                              go_ret
                              exact ⟨(by first | rfl | (simp; done) | (simp [*]; done) | (rw [if_pos (by omega)]; first | rfl | (simp; done)) | (rw [if_neg (by omega)]; first | rfl | (simp; done)) | (simp; omega)), (by repeat (first | exact Below.refl _ _ | apply below_alloc | apply pw_below_drewN | apply below_drew1 | (refine Below.setCell ?_ (by first | (simp; done) | (simp; omega) | omega) _) | exact hBzz))⟩
                            · by_cases g5 : 2000 < x.text.size
                              · have g5' : (2000 : Int) < (x.text.size : Int) := by omega
                                have hR11 := hbdh.out (hbd2 (.inr (.inr (.inr (.inr g5)))))
                                subst hR11
                                clear hbd2 hgd2
                                go_wp2_with fail
                                go_quiet ((go_at_call 52; first | exact quiet_eq (in_yes _ _ _ _ (by omega) (by omega)) | exact quiet_eq (in_no _ _ _ _ (by omega))))
                                go_wp2_with fail
                                go_ret
                                exact ⟨(by first | rfl | (simp; done) | (simp [*]; done) | (rw [if_pos (by omega)]; first | rfl | (simp; done)) | (rw [if_neg (by omega)]; first | rfl | (simp; done)) | (simp; omega)), (by repeat (first | exact Below.refl _ _ | apply below_alloc | apply pw_below_drewN | apply below_drew1 | (refine Below.setCell ?_ (by first | (simp; done) | (simp; omega) | omega) _) | exact hBzz))⟩
                              · have g5' : ¬ (2000 : Int) < (x.text.size : Int) := by omega
                                have hn2 := Lib.hid (hgd2 (by intro h; rcases h with h | h | h | h | h <;> omega))
                                clear hbd2 hgd2
                                go_wp2_with fail
                                go_quiet ((go_at_call 52; first | exact quiet_eq (in_yes _ _ _ _ (by omega) (by omega)) | exact quiet_eq (in_no _ _ _ _ (by omega))))
                                go_wp2_with fail
                                go_roundw
                                case rel => exact ⟨j + 1, x.uid, hlj, by go_num, by rw [← hn2.out], by omega, fun h => by omega, fun h h2 => by simp only [Nat.add_sub_cancel]; rw [hlx.out], hXz.below (show Below wr.heap.size wr _ from (by repeat (first | exact Below.refl _ _ | apply below_alloc | apply pw_below_drewN | apply below_drew1 | (refine Below.setCell ?_ (by first | (simp; done) | (simp; omega) | omega) _) ))) (by omega), hblkz.below (show Below wr.heap.size wr _ from (by repeat (first | exact Below.refl _ _ | apply below_alloc | apply pw_below_drewN | apply below_drew1 | (refine Below.setCell ?_ (by first | (simp; done) | (simp; omega) | omega) _) ))) (by omega), Below.trans hBz (Below.mono (show Below wr.heap.size wr _ from (by repeat (first | exact Below.refl _ _ | apply below_alloc | apply pw_below_drewN | apply below_drew1 | (refine Below.setCell ?_ (by first | (simp; done) | (simp; omega) | omega) _) ))) hBz.size)⟩
                                case measure => simp [intOf]; omega
                    · obtain ⟨i, rfl⟩ : ∃ i, j = i + 1 := ⟨j - 1, by omega⟩
                      have hlast := hjp hjz (by omega)
                      simp only [Nat.add_sub_cancel] at hlast
                      obtain ⟨ad3, e3, hx0, hxj⟩ := flat_at (Kd.C_below hCl hBz) i (by omega)
                      obtain rfl := Option.some.inj e3
                      have r0 := hx0 _ rfl; have r1 := hxj 1 _ (by decide) rfl; have r2 := hxj 2 _ (by decide) rfl
                      clear hx0 hxj
                      rw [← hlast] at r0
                      clear r1 r2
                      have ji : i < l.length := by omega
                      have jz : decide (0 < i + 1) = true := decide_eq_true (by omega)
                      have jz2 : (0 : Int) < (i : Int) + 1 := by omega
                      have jo : (0 : Int) ≤ (i : Int) := by omega
                      have jp : (i : Int) < (l.length : Int) := by omega
                      have jq : (0 : Int) ≤ (i : Int) + 1 := by omega
                      have jr : (i : Int) + 1 < (l.length : Int) := by omega
                      have jw : IntKind.i64.wrap (i : Int) = (i : Int) := by rw [IntKind.wrap_i64]; omega
                      clear hjp hj0 hlast
                      generalize hlx : l[i + 1] = x at *
                      replace hlx := Lib.hid hlx
                      have r0a := cell_alloc' r0 (.cells #[.int .i64 x.uid, .int .i64 x.flags, .string x.text] 84)
                      by_cases g1 : x.uid < 1
                      · have hR11 := hbdh.out (hbd2 (.inl (by omega)))
                        subst hR11
                        clear hbd2 hgd2
                        go_wp2_with fail
                        go_quiet ((go_at_call 52; first | exact quiet_eq (in_yes _ _ _ _ (by omega) (by omega)) | exact quiet_eq (in_no _ _ _ _ (by omega))))
                        go_wp2_with fail
                        go_ret
                        exact ⟨(by first | rfl | (simp; done) | (simp [*]; done) | (rw [if_pos (by omega)]; first | rfl | (simp; done)) | (rw [if_neg (by omega)]; first | rfl | (simp; done)) | (simp; omega)), (by repeat (first | exact Below.refl _ _ | apply below_alloc | apply pw_below_drewN | apply below_drew1 | (refine Below.setCell ?_ (by first | (simp; done) | (simp; omega) | omega) _) | exact hBzz))⟩
                      · by_cases g1' : x.uid ≤ last
                        · by_cases g2 : nx ≤ x.uid
                          · have hR11 := hbdh.out (hbd2 (.inr (.inl g2)))
                            subst hR11
                            clear hbd2 hgd2
                            go_wp2_with fail
                            go_quiet ((go_at_call 52; first | exact quiet_eq (in_yes _ _ _ _ (by omega) (by omega)) | exact quiet_eq (in_no _ _ _ _ (by omega))))
                            go_wp2_with fail
                            go_ret
                            exact ⟨(by first | rfl | (simp; done) | (simp [*]; done) | (rw [if_pos (by omega)]; first | rfl | (simp; done)) | (rw [if_neg (by omega)]; first | rfl | (simp; done)) | (simp; omega)), (by repeat (first | exact Below.refl _ _ | apply below_alloc | apply pw_below_drewN | apply below_drew1 | (refine Below.setCell ?_ (by first | (simp; done) | (simp; omega) | omega) _) | exact hBzz))⟩
                          · have hR11 := hbdh.out (hbd2 (.inl g1'))
                            subst hR11
                            clear hbd2 hgd2
                            go_wp2_with fail
                            go_quiet ((go_at_call 52; first | exact quiet_eq (in_yes _ _ _ _ (by omega) (by omega)) | exact quiet_eq (in_no _ _ _ _ (by omega))))
                            go_wp2_with fail
                            go_ret
                            exact ⟨(by first | rfl | (simp; done) | (simp [*]; done) | (rw [if_pos (by omega)]; first | rfl | (simp; done)) | (rw [if_neg (by omega)]; first | rfl | (simp; done)) | (simp; omega)), (by repeat (first | exact Below.refl _ _ | apply below_alloc | apply pw_below_drewN | apply below_drew1 | (refine Below.setCell ?_ (by first | (simp; done) | (simp; omega) | omega) _) | exact hBzz))⟩
                        · by_cases g2 : nx ≤ x.uid
                          · have hR11 := hbdh.out (hbd2 (.inr (.inl g2)))
                            subst hR11
                            clear hbd2 hgd2
                            go_wp2_with fail
                            go_quiet ((go_at_call 52; first | exact quiet_eq (in_yes _ _ _ _ (by omega) (by omega)) | exact quiet_eq (in_no _ _ _ _ (by omega))))
                            go_wp2_with fail
                            go_ret
                            exact ⟨(by first | rfl | (simp; done) | (simp [*]; done) | (rw [if_pos (by omega)]; first | rfl | (simp; done)) | (rw [if_neg (by omega)]; first | rfl | (simp; done)) | (simp; omega)), (by repeat (first | exact Below.refl _ _ | apply below_alloc | apply pw_below_drewN | apply below_drew1 | (refine Below.setCell ?_ (by first | (simp; done) | (simp; omega) | omega) _) | exact hBzz))⟩
                          · by_cases g3 : x.flags < 0
                            · have hR11 := hbdh.out (hbd2 (.inr (.inr (.inl g3))))
                              subst hR11
                              clear hbd2 hgd2
                              go_wp2_with fail
                              go_quiet ((go_at_call 52; first | exact quiet_eq (in_yes _ _ _ _ (by omega) (by omega)) | exact quiet_eq (in_no _ _ _ _ (by omega))))
                              go_wp2_with fail
                              go_ret
                              exact ⟨(by first | rfl | (simp; done) | (simp [*]; done) | (rw [if_pos (by omega)]; first | rfl | (simp; done)) | (rw [if_neg (by omega)]; first | rfl | (simp; done)) | (simp; omega)), (by repeat (first | exact Below.refl _ _ | apply below_alloc | apply pw_below_drewN | apply below_drew1 | (refine Below.setCell ?_ (by first | (simp; done) | (simp; omega) | omega) _) | exact hBzz))⟩
                            · by_cases g4 : 31 < x.flags
                              · have hR11 := hbdh.out (hbd2 (.inr (.inr (.inr (.inl g4)))))
                                subst hR11
                                clear hbd2 hgd2
                                go_wp2_with fail
                                go_quiet ((go_at_call 52; first | exact quiet_eq (in_yes _ _ _ _ (by omega) (by omega)) | exact quiet_eq (in_no _ _ _ _ (by omega))))
                                go_wp2_with fail
                                go_ret
                                exact ⟨(by first | rfl | (simp; done) | (simp [*]; done) | (rw [if_pos (by omega)]; first | rfl | (simp; done)) | (rw [if_neg (by omega)]; first | rfl | (simp; done)) | (simp; omega)), (by repeat (first | exact Below.refl _ _ | apply below_alloc | apply pw_below_drewN | apply below_drew1 | (refine Below.setCell ?_ (by first | (simp; done) | (simp; omega) | omega) _) | exact hBzz))⟩
                              · by_cases g5 : 2000 < x.text.size
                                · have g5' : (2000 : Int) < (x.text.size : Int) := by omega
                                  have hR11 := hbdh.out (hbd2 (.inr (.inr (.inr (.inr g5)))))
                                  subst hR11
                                  clear hbd2 hgd2
                                  go_wp2_with fail
                                  go_quiet ((go_at_call 52; first | exact quiet_eq (in_yes _ _ _ _ (by omega) (by omega)) | exact quiet_eq (in_no _ _ _ _ (by omega))))
                                  go_wp2_with fail
                                  go_ret
                                  exact ⟨(by first | rfl | (simp; done) | (simp [*]; done) | (rw [if_pos (by omega)]; first | rfl | (simp; done)) | (rw [if_neg (by omega)]; first | rfl | (simp; done)) | (simp; omega)), (by repeat (first | exact Below.refl _ _ | apply below_alloc | apply pw_below_drewN | apply below_drew1 | (refine Below.setCell ?_ (by first | (simp; done) | (simp; omega) | omega) _) | exact hBzz))⟩
                                · have g5' : ¬ (2000 : Int) < (x.text.size : Int) := by omega
                                  have hn2 := Lib.hid (hgd2 (by intro h; rcases h with h | h | h | h | h <;> omega))
                                  clear hbd2 hgd2
                                  go_wp2_with fail
                                  go_quiet ((go_at_call 52; first | exact quiet_eq (in_yes _ _ _ _ (by omega) (by omega)) | exact quiet_eq (in_no _ _ _ _ (by omega))))
                                  go_wp2_with fail
                                  go_roundw
                                  case rel => exact ⟨(i + 1) + 1, x.uid, hlj, by go_num, by rw [← hn2.out], by omega, fun h => by omega, fun h h2 => by simp only [Nat.add_sub_cancel]; rw [hlx.out], hXz.below (show Below wr.heap.size wr _ from (by repeat (first | exact Below.refl _ _ | apply below_alloc | apply pw_below_drewN | apply below_drew1 | (refine Below.setCell ?_ (by first | (simp; done) | (simp; omega) | omega) _) ))) (by omega), hblkz.below (show Below wr.heap.size wr _ from (by repeat (first | exact Below.refl _ _ | apply below_alloc | apply pw_below_drewN | apply below_drew1 | (refine Below.setCell ?_ (by first | (simp; done) | (simp; omega) | omega) _) ))) (by omega), Below.trans hBz (Below.mono (show Below wr.heap.size wr _ from (by repeat (first | exact Below.refl _ _ | apply below_alloc | apply pw_below_drewN | apply below_drew1 | (refine Below.setCell ?_ (by first | (simp; done) | (simp; omega) | omega) _) ))) hBz.size)⟩
                                  case measure => simp [intOf]; omega
                  · obtain rfl : j = l.length := by omega
                    rw [mails_end] at hmo
                    have hst := hgdh.out hmo.symm
                    have j1 : ¬ (l.length : Int) < (l.length : Int) := by omega
                    have hyes2 := hyes.out
                    have hno2 := hno.out
                    rw [hst] at hyes2 hno2
                    replace hyes2 := Lib.hid hyes2
                    replace hno2 := Lib.hid hno2
                    clear hst hmo hjp hj0
                    go_wp2_with fail
                    go_roundw
                    case rel => exact ⟨k + 1, hlt, by go_num, hyes2.out, hno2.out, hblkz, hBzz⟩
                    case measure => simp [intOf]; omega
          · have hR11 := hno (hbd (fun h => hfi h.2))
            subst hR11
            have hfi' : 0 ≤ fi := by omega
            clear hbd hgd hyes hno hn
            go_wp2_with fail
            go_quiet ((first | (go_at_call 50; exact quiet_eq (HN.out _)) | (go_at_call 51; exact quiet_eq (HF.out _ (Kd.C_below hCq (by first | exact Below.refl _ _ | exact pw_below_drewN (Below.refl _ _) _)))) | (go_at_call 52; first | exact quiet_eq (in_yes _ _ _ _ (by omega) (by omega)) | exact quiet_eq (in_no _ _ _ _ (by omega)))))
            go_wp2_with fail
            go_ret
            exact ⟨(by first | rfl | (simp; done) | (simp [*]; done) | (rw [if_pos (by omega)]; first | rfl | (simp; done)) | (rw [if_neg (by omega)]; first | rfl | (simp; done)) | (simp; omega)), (by repeat (first | exact Below.refl _ _ | apply below_alloc | apply pw_below_drewN | apply below_drew1 | (refine Below.setCell ?_ (by first | (simp; done) | (simp; omega) | omega) _) | exact hB))⟩
        · have hR11 := hno (hbd (fun h => by have := h.1; unfold boxOk at this; rw [if_pos (.inl hn)] at this; cases this))
          subst hR11
          generalize nameFault nm = f at *
          have hfb : (f != 0) = true := by simp [hn]
          replace HN := Lib.hid HN
          clear hbd hgd hyes hno hn
          go_wp2_with fail
          go_quiet ((first | (go_at_call 50; exact quiet_eq (HN.out _)) | (go_at_call 51; exact quiet_eq (HF.out _ (Kd.C_below hCq (by first | exact Below.refl _ _ | exact pw_below_drewN (Below.refl _ _) _)))) | (go_at_call 52; first | exact quiet_eq (in_yes _ _ _ _ (by omega) (by omega)) | exact quiet_eq (in_no _ _ _ _ (by omega)))))
          go_wp2_with fail
          go_ret
          exact ⟨(by first | rfl | (simp; done) | (simp [*]; done) | (rw [if_pos (by omega)]; first | rfl | (simp; done)) | (rw [if_neg (by omega)]; first | rfl | (simp; done)) | (simp; omega)), (by repeat (first | exact Below.refl _ _ | apply below_alloc | apply pw_below_drewN | apply below_drew1 | (refine Below.setCell ?_ (by first | (simp; done) | (simp; omega) | omega) _) | exact hB))⟩
      · obtain rfl : k = bs.length := by omega
        have i1 : ¬ (bs.length : Int) < (bs.length : Int) := by omega
        have hall := hyes (boxes_end (by omega))
        have b1 := hblk.at 1 _ rfl
        rw [stTail, if_pos hall] at hR
        have htot : stSize bs ≤ 1000000 := by
          have h1 := boxes_sz bs.length 0 (by omega) hall
          have h2 : (bs.length - 0) * 60000 ≤ 5 * 60000 := Nat.mul_le_mul_right _ (by omega)
          rw [List.drop_zero] at h1; omega
        clear hyes hno hall
        replace hR := Lib.hid hR
        go_wp2_with fail
        go_loopw [7] (fun i wr => ∃ k : Nat, k ≤ es.length ∧ i = .int .i64 k ∧ spoolOk (es.drop k) = spoolOk es ∧ Blk wr w.heap.size [.slice A bs.length c, .slice A2 es.length c2] ∧ Below w.heap.size w wr) (fun i _ => es.length - (intOf i).toNat)
        case atStart => exact ⟨0, Nat.zero_le _, rfl, rfl, hblk, hB⟩
        case round =>
          clear hblk hB b0 b1 hz
          obtain ⟨k, hk, rfl, hsp, hblk, hB⟩ := hrel
          have hz := hblk.lt
          have b0 := hblk.at 0 _ rfl
          have b1 := hblk.at 1 _ rfl
          by_cases hlt : k < es.length
          · obtain ⟨ad, e1, hx0, hxj⟩ := flat_at (Kd.C_below hr2 hB) k hlt
            subst e1
            have q0 := hx0 _ rfl; have q1 := hxj 1 _ (by decide) rfl; have q2 := hxj 2 _ (by decide) rfl; have q3 := hxj 3 _ (by decide) rfl; have q4 := hxj 4 _ (by decide) rfl; have q5 := hxj 5 _ (by decide) rfl
            clear hx0 hxj
            obtain ⟨s1, s2, s3⟩ := hs.2 _ (List.getElem_mem hlt)
            have hbd := fun h => spool_bad hlt h
            have hgd := fun h h2 => spool_good hlt h h2
            rw [hsp] at hbd hgd
            have i0 : (0 : Int) ≤ (k : Int) := by omega
            have j1 : (k : Int) < (es.length : Int) := by omega
            generalize es[k] = x at *
            have HF := fun w => entryFault_calls x w s1 s2 s3
            by_cases hk6 : x.kind = 6
            · by_cases hf : entryFault x = 0
              · rw [hf] at HF
                have hn := hgd hk6 hf
                replace hn := Lib.hid hn
                replace HF := Lib.hid HF
                have hkb : (x.kind != 6) = false := by simp [hk6]
                clear hbd hgd hf hsp hk6
                go_wp2_with fail
                refine (HF.out _).mono ?_
                rintro e w2 ⟨rfl, hc2⟩
                have hb2 : Below wr.heap.size wr w2 := (by repeat (first | exact Below.refl _ _ | apply below_alloc | apply pw_below_drewN | apply below_drew1 | (refine Below.setCell ?_ (by first | (simp; done) | (simp; omega) | omega) _) | (refine below_then ?_ (by first | (simp; done) | (simp; omega) | omega) hc2)))
                have hblk2 := hblk.below hb2 hz
                have hB2 := hB.trans (hb2.mono (by omega))
                clear hc2 hb2 hblk
                go_wp2_with fail
                go_roundw
                case rel => exact ⟨k + 1, hlt, by go_num, hn.out.symm, hblk2, hB2⟩
                case measure => simp [intOf]; omega
              · have hR2 := hR.out
                rw [hbd (fun h => hf h.2), if_neg (by decide)] at hR2
                subst hR2
                generalize entryFault x = f at *
                have hfb : (f != 0) = true := by simp [hf]
                replace HF := Lib.hid HF
                have hkb : (x.kind != 6) = false := by simp [hk6]
                clear hbd hgd hf hsp hk6
                go_wp2_with fail
                refine (HF.out _).mono ?_
                rintro e w2 ⟨rfl, hc2⟩
                have hB2 : Below w.heap.size w w2 := (by repeat (first | exact Below.refl _ _ | apply below_alloc | apply pw_below_drewN | apply below_drew1 | (refine Below.setCell ?_ (by first | (simp; done) | (simp; omega) | omega) _) | (refine below_then ?_ (by first | (simp; done) | (simp; omega) | omega) hc2) | exact hB))
                go_wp2_with fail
                go_ret
                exact ⟨(by first | rfl | (simp; done) | (simp [*]; done) | (rw [if_pos (by omega)]; first | rfl | (simp; done)) | (rw [if_neg (by omega)]; first | rfl | (simp; done)) | (simp; omega)), hB2⟩
            · have hR2 := hR.out
              rw [hbd (fun h => hk6 h.1), if_neg (by decide)] at hR2
              subst hR2
              have hkb : (x.kind != 6) = true := by simp [hk6]
              clear hbd hgd hsp HF
              go_wp2_with fail
              go_ret
              exact ⟨(by first | rfl | (simp; done) | (simp [*]; done) | (rw [if_pos (by omega)]; first | rfl | (simp; done)) | (rw [if_neg (by omega)]; first | rfl | (simp; done)) | (simp; omega)), (by repeat (first | exact Below.refl _ _ | apply below_alloc | apply pw_below_drewN | apply below_drew1 | (refine Below.setCell ?_ (by first | (simp; done) | (simp; omega) | omega) _) | exact hB))⟩
          · obtain rfl : k = es.length := by omega
            rw [spool_end] at hsp
            have hR2 := hR.out
            rw [← hsp, if_pos rfl] at hR2
            have j1 : ¬ (es.length : Int) < (es.length : Int) := by omega
            have HS := Lib.hid (bytesOf_calls A c bs (.slice A2 es.length c2) wr ⟨_, _, _, rfl⟩ (Kd.C_below hr hB) htot)
            clear hsp hR
            by_cases hbig : 6000 < stSize bs
            · rw [if_pos hbig] at hR2
              subst hR2
              have hbig' : (6000 : Int) < ((stSize bs : Nat) : Int) := by omega
              go_wp2_with fail
              refine HS.out.mono ?_
              rintro e w2 ⟨rfl, hb2⟩
              go_wp2_with fail
              go_ret
              exact ⟨(by first | rfl | (simp; done) | (simp [*]; done) | (rw [if_pos (by omega)]; first | rfl | (simp; done)) | (rw [if_neg (by omega)]; first | rfl | (simp; done)) | (simp; omega)), hB.trans (hb2.mono hB.size)⟩
            · rw [if_neg hbig] at hR2
              subst hR2
              have hbig' : ¬ (6000 : Int) < ((stSize bs : Nat) : Int) := by omega
              go_wp2_with fail
              refine HS.out.mono ?_
              rintro e w2 ⟨rfl, hb2⟩
              go_wp2_with fail
              go_ret
              exact ⟨(by first | rfl | (simp; done) | (simp [*]; done) | (rw [if_pos (by omega)]; first | rfl | (simp; done)) | (rw [if_neg (by omega)]; first | rfl | (simp; done)) | (simp; omega)), hB.trans (hb2.mono hB.size)⟩
end Go.Proofs.YtijdghplfhfpaaaDoor.H
