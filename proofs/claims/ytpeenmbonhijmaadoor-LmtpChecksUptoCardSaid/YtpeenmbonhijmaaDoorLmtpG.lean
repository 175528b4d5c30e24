/- Sessions: the reference's SessionFault of a session with people to whom it goes. -/
import Derived.Test.YtpeenmbonhijmaaDoorLmtpF
import Derived.Test.YtpeenmbonhijmaaDoorLmtpD
namespace Go.Proofs.YtpeenmbonhijmaaDoor.H
open Go.RowKit Go.Proofs.YtpeenmbonhijmaaDoorW.PrintWords Go.Proofs.YtpeenmbonhijmaaDoorW.PrintLast Go.Proofs.YtpeenmbonhijmaaDoorW.PrintMore Go.Proofs.YtpeenmbonhijmaaDoor.U
set_option linter.unusedVariables false
set_option linter.unusedSimpArgs false
set_option maxHeartbeats 1000000 in
set_option maxRecDepth 100000 in
theorem refSession_goes (st : Int) (h3 : 3 ≤ st) (h4 : st ≤ 4) (fr : AAddress) (A : Option Addr) (c : Nat) (l : List AAddress) (tx : ByteArray) (lg : Bool) (w : World) (hr : Kd.C kAAddress w A l.length l) (hlc : l.length ≤ c) (hl : l.length ≤ 5) (ht : tx.size ≤ 2000) (ha : fr.loc.size ≤ 1048576) (hb : fr.dom.size ≤ 1048576) (hs : ∀ x ∈ l, x.loc.size ≤ 1048576 ∧ x.dom.size ≤ 1048576) :
    Calls Tryd.prog 17 #[.agg #[.int .i64 st, .string fr.loc, .string fr.dom, .slice A l.length c, .string tx, .bool lg]] w fun e w' => e = .returned (.int .i64 (sessFault st fr l tx lg)) ∧ Below w.heap.size w w' := by
  have h0 : 0 ≤ st := by omega
  have h5 : st ≤ 5 := by omega
  have hs2 : 2 ≤ st := by omega
  have hi : ¬ (5 : Int) < l.length := by omega
  have hi2 : ¬ (2000 : Int) < tx.size := by omega
  have hq := fun h => sess_yes (st := st) (fr := fr) (l := l) (tx := tx) (lg := lg) h
  have hn := fun h => sess_no (st := st) (fr := fr) (l := l) (tx := tx) (lg := lg) h
  have HC := fun w => addressFault_calls fr.loc fr.dom w ha hb
  have HK := fun k (hk : k < l.length) w => addressFault_calls l[k].loc l[k].dom w (hs _ (List.getElem_mem hk)).1 (hs _ (List.getElem_mem hk)).2
  have HI : ∀ k (hk : k < l.length) (w : World), Kd.C kAAddress w A k (l.take k) → Calls Tryd.prog 55 #[.slice A k c, .agg #[.string l[k].loc, .string l[k].dom]] w fun e w' => e = .returned (.bool (hasA (l.take k) l[k])) ∧ Below w.heap.size w w' := fun k hk w hr => by
    have hlk : (l.take k).length = k := by rw [List.length_take]; omega
    have h := addressIn_calls A c (l.take k) l[k] w (by rw [hlk]; exact hr)
    rw [hlk] at h
    exact h
  generalize sessFault st fr l tx lg = r at *
  unfold sessMay at hq hn
  rw [if_pos ⟨hs2, h4⟩, if_pos ⟨h3, h4⟩] at hq hn
  generalize addrFault fr.loc fr.dom = f at *
  have HC := Lib.hid HC
  have HK := Lib.hid HK
  have HI := Lib.hid HI
  by_cases hf : f = 0
  · subst hf
    by_cases hl0 : l.length = 0
    · have hi0 : (l.length : Int) = 0 := by omega
      obtain rfl := hn (fun hh => by have := hh.2.2.2.2.2.1.1; omega)
      clear hq hn
      go_enter Tryd.func17, Tryd.ntmps17
      go_wp2_with ((go_at_call 53; first | (refine (in_yes _ _ _ _ (by omega) (by omega)).mono ?_; rintro e w' ⟨rfl, rfl⟩) | (refine (in_no _ _ _ _ (by omega)).mono ?_; rintro e w' ⟨rfl, rfl⟩)))
      refine (HC.out _).mono ?_
      rintro e w1 ⟨rfl, hb1⟩
      obtain ⟨hc_w1, hf_w1⟩ := bcell hb1
      have s_ := hb1.size
      (try simp at s_)
      (first | (have : w.heap.size < w1.heap.size := by omega) | skip)
      have : w.heap.size ≤ w1.heap.size := by omega
      clear s_
      have : w1.cell? ⟨w.heap.size, 0, none⟩ = some (.int .i64 st) := (by rw [hc_w1 _ _ (by first | (simp; done) | (simp; omega))]; first | (simp; done) | (simp [*]; done) | assumption | (simp [go_sem, *]; done)); have : w1.frozen? ⟨w.heap.size, 0, none⟩ = false := (by rw [hf_w1 _ _ (by first | (simp; done) | (simp; omega))]; first | (simp; done) | (simp [*]; done) | assumption | (simp [go_sem, *]; done)); have : w1.cell? ⟨w.heap.size, 1, none⟩ = some (.string fr.loc) := (by rw [hc_w1 _ _ (by first | (simp; done) | (simp; omega))]; first | (simp; done) | (simp [*]; done) | assumption | (simp [go_sem, *]; done)); have : w1.frozen? ⟨w.heap.size, 1, none⟩ = false := (by rw [hf_w1 _ _ (by first | (simp; done) | (simp; omega))]; first | (simp; done) | (simp [*]; done) | assumption | (simp [go_sem, *]; done)); have : w1.cell? ⟨w.heap.size, 2, none⟩ = some (.string fr.dom) := (by rw [hc_w1 _ _ (by first | (simp; done) | (simp; omega))]; first | (simp; done) | (simp [*]; done) | assumption | (simp [go_sem, *]; done)); have : w1.frozen? ⟨w.heap.size, 2, none⟩ = false := (by rw [hf_w1 _ _ (by first | (simp; done) | (simp; omega))]; first | (simp; done) | (simp [*]; done) | assumption | (simp [go_sem, *]; done)); have : w1.cell? ⟨w.heap.size, 3, none⟩ = some (.slice A l.length c) := (by rw [hc_w1 _ _ (by first | (simp; done) | (simp; omega))]; first | (simp; done) | (simp [*]; done) | assumption | (simp [go_sem, *]; done)); have : w1.frozen? ⟨w.heap.size, 3, none⟩ = false := (by rw [hf_w1 _ _ (by first | (simp; done) | (simp; omega))]; first | (simp; done) | (simp [*]; done) | assumption | (simp [go_sem, *]; done)); have : w1.cell? ⟨w.heap.size, 4, none⟩ = some (.string tx) := (by rw [hc_w1 _ _ (by first | (simp; done) | (simp; omega))]; first | (simp; done) | (simp [*]; done) | assumption | (simp [go_sem, *]; done)); have : w1.frozen? ⟨w.heap.size, 4, none⟩ = false := (by rw [hf_w1 _ _ (by first | (simp; done) | (simp; omega))]; first | (simp; done) | (simp [*]; done) | assumption | (simp [go_sem, *]; done)); have : w1.cell? ⟨w.heap.size, 5, none⟩ = some (.bool lg) := (by rw [hc_w1 _ _ (by first | (simp; done) | (simp; omega))]; first | (simp; done) | (simp [*]; done) | assumption | (simp [go_sem, *]; done)); have : w1.frozen? ⟨w.heap.size, 5, none⟩ = false := (by rw [hf_w1 _ _ (by first | (simp; done) | (simp; omega))]; first | (simp; done) | (simp [*]; done) | assumption | (simp [go_sem, *]; done))
      clear hc_w1 hf_w1
      go_wp2_with ((go_at_call 53; first | (refine (in_yes _ _ _ _ (by omega) (by omega)).mono ?_; rintro e w' ⟨rfl, rfl⟩) | (refine (in_no _ _ _ _ (by omega)).mono ?_; rintro e w' ⟨rfl, rfl⟩)))
      go_ret
      exact ⟨(by first | rfl | (simp; done) | (simp [*]; done) | (rw [if_pos (by omega)]; first | rfl | (simp; done)) | (rw [if_neg (by omega)]; first | rfl | (simp; done)) | (simp; omega)), (by repeat (first | exact Below.refl _ _ | apply below_alloc | apply pw_below_drewN | apply below_drew1 | (refine Below.setCell ?_ (by first | (simp; done) | (simp; omega) | omega) _) | (refine below_then ?_ (by first | (simp; done) | (simp; omega) | omega) hb1)))⟩
    · have hi3 : (0 : Int) < l.length := by omega
      have hdl : (!decide (0 < l.length)) = false := by rw [Bool.not_eq_false', decide_eq_true_eq]; omega
      have hbad : ∀ k (hk : k < l.length), ¬ okA l k hk → r = 11 := fun k hk h => hn fun hh => h (hh.2.2.2.2.2.1.2 k hk)
      have hend : (∀ k (hk : k < l.length), okA l k hk) → (st = 4 ∨ (tx.size = 0 ∧ lg = false)) → r = 0 := fun h h1 => hq ⟨h0, h5, hl, ht, rfl, ⟨by omega, h⟩, h1⟩
      have hthree : ¬ (st = 4 ∨ (tx.size = 0 ∧ lg = false)) → r = 11 := fun h1 => hn fun hh => h1 hh.2.2.2.2.2.2
      have HR := Lib.hid (And.intro hbad (And.intro hend hthree))
      clear hbad hend hthree hq hn
      go_enter Tryd.func17, Tryd.ntmps17
      go_wp2_with ((go_at_call 53; first | (refine (in_yes _ _ _ _ (by omega) (by omega)).mono ?_; rintro e w' ⟨rfl, rfl⟩) | (refine (in_no _ _ _ _ (by omega)).mono ?_; rintro e w' ⟨rfl, rfl⟩)))
      refine (HC.out _).mono ?_
      rintro e w1 ⟨rfl, hb1⟩
      obtain ⟨hc_w1, hf_w1⟩ := bcell hb1
      have s_ := hb1.size
      (try simp at s_)
      (first | (have : w.heap.size < w1.heap.size := by omega) | skip)
      have : w.heap.size ≤ w1.heap.size := by omega
      clear s_
      have : w1.cell? ⟨w.heap.size, 0, none⟩ = some (.int .i64 st) := (by rw [hc_w1 _ _ (by first | (simp; done) | (simp; omega))]; first | (simp; done) | (simp [*]; done) | assumption | (simp [go_sem, *]; done)); have : w1.frozen? ⟨w.heap.size, 0, none⟩ = false := (by rw [hf_w1 _ _ (by first | (simp; done) | (simp; omega))]; first | (simp; done) | (simp [*]; done) | assumption | (simp [go_sem, *]; done)); have : w1.cell? ⟨w.heap.size, 1, none⟩ = some (.string fr.loc) := (by rw [hc_w1 _ _ (by first | (simp; done) | (simp; omega))]; first | (simp; done) | (simp [*]; done) | assumption | (simp [go_sem, *]; done)); have : w1.frozen? ⟨w.heap.size, 1, none⟩ = false := (by rw [hf_w1 _ _ (by first | (simp; done) | (simp; omega))]; first | (simp; done) | (simp [*]; done) | assumption | (simp [go_sem, *]; done)); have : w1.cell? ⟨w.heap.size, 2, none⟩ = some (.string fr.dom) := (by rw [hc_w1 _ _ (by first | (simp; done) | (simp; omega))]; first | (simp; done) | (simp [*]; done) | assumption | (simp [go_sem, *]; done)); have : w1.frozen? ⟨w.heap.size, 2, none⟩ = false := (by rw [hf_w1 _ _ (by first | (simp; done) | (simp; omega))]; first | (simp; done) | (simp [*]; done) | assumption | (simp [go_sem, *]; done)); have : w1.cell? ⟨w.heap.size, 3, none⟩ = some (.slice A l.length c) := (by rw [hc_w1 _ _ (by first | (simp; done) | (simp; omega))]; first | (simp; done) | (simp [*]; done) | assumption | (simp [go_sem, *]; done)); have : w1.frozen? ⟨w.heap.size, 3, none⟩ = false := (by rw [hf_w1 _ _ (by first | (simp; done) | (simp; omega))]; first | (simp; done) | (simp [*]; done) | assumption | (simp [go_sem, *]; done)); have : w1.cell? ⟨w.heap.size, 4, none⟩ = some (.string tx) := (by rw [hc_w1 _ _ (by first | (simp; done) | (simp; omega))]; first | (simp; done) | (simp [*]; done) | assumption | (simp [go_sem, *]; done)); have : w1.frozen? ⟨w.heap.size, 4, none⟩ = false := (by rw [hf_w1 _ _ (by first | (simp; done) | (simp; omega))]; first | (simp; done) | (simp [*]; done) | assumption | (simp [go_sem, *]; done)); have : w1.cell? ⟨w.heap.size, 5, none⟩ = some (.bool lg) := (by rw [hc_w1 _ _ (by first | (simp; done) | (simp; omega))]; first | (simp; done) | (simp [*]; done) | assumption | (simp [go_sem, *]; done)); have : w1.frozen? ⟨w.heap.size, 5, none⟩ = false := (by rw [hf_w1 _ _ (by first | (simp; done) | (simp; omega))]; first | (simp; done) | (simp [*]; done) | assumption | (simp [go_sem, *]; done))
      clear hc_w1 hf_w1
      go_wp2_with ((go_at_call 53; first | (refine (in_yes _ _ _ _ (by omega) (by omega)).mono ?_; rintro e w' ⟨rfl, rfl⟩) | (refine (in_no _ _ _ _ (by omega)).mono ?_; rintro e w' ⟨rfl, rfl⟩)))
      go_loopw [5] (fun i wr => ∃ k : Nat, k ≤ l.length ∧ i = .int .i64 k ∧ (∀ j (hj : j < l.length), j < k → okA l j hj) ∧ Below (w.heap.size + 1) w1 wr) (fun i _ => l.length - (intOf i).toNat)
      case atStart => exact ⟨0, Nat.zero_le _, rfl, fun j _ hj => absurd hj (Nat.not_lt_zero _), Below.refl _ _⟩
      case round =>
        obtain ⟨k, hk, rfl, hne, hB⟩ := hrel
        have hne := Lib.hid hne
        have hBw : Below w.heap.size w wr := Below.trans (by repeat (first | exact Below.refl _ _ | apply below_alloc | apply pw_below_drewN | apply below_drew1 | (refine Below.setCell ?_ (by first | (simp; done) | (simp; omega) | omega) _) | (refine below_then ?_ (by first | (simp; done) | (simp; omega) | omega) hb1))) (Below.mono hB (by omega))
        obtain ⟨hcb, hfb⟩ := bcellB hB
        have hzw : w.heap.size < wr.heap.size := by have := hB.size; omega
        have : wr.cell? ⟨w.heap.size, 0, none⟩ = some (.int .i64 st) := (by rw [hcb _ _ (by first | (simp; done) | (simp; omega))]; first | (simp; done) | (simp [*]; done) | assumption | (simp [go_sem, *]; done)); have : wr.frozen? ⟨w.heap.size, 0, none⟩ = false := (by rw [hfb _ _ (by first | (simp; done) | (simp; omega))]; first | (simp; done) | (simp [*]; done) | assumption | (simp [go_sem, *]; done)); have : wr.cell? ⟨w.heap.size, 1, none⟩ = some (.string fr.loc) := (by rw [hcb _ _ (by first | (simp; done) | (simp; omega))]; first | (simp; done) | (simp [*]; done) | assumption | (simp [go_sem, *]; done)); have : wr.frozen? ⟨w.heap.size, 1, none⟩ = false := (by rw [hfb _ _ (by first | (simp; done) | (simp; omega))]; first | (simp; done) | (simp [*]; done) | assumption | (simp [go_sem, *]; done)); have : wr.cell? ⟨w.heap.size, 2, none⟩ = some (.string fr.dom) := (by rw [hcb _ _ (by first | (simp; done) | (simp; omega))]; first | (simp; done) | (simp [*]; done) | assumption | (simp [go_sem, *]; done)); have : wr.frozen? ⟨w.heap.size, 2, none⟩ = false := (by rw [hfb _ _ (by first | (simp; done) | (simp; omega))]; first | (simp; done) | (simp [*]; done) | assumption | (simp [go_sem, *]; done)); have : wr.cell? ⟨w.heap.size, 3, none⟩ = some (.slice A l.length c) := (by rw [hcb _ _ (by first | (simp; done) | (simp; omega))]; first | (simp; done) | (simp [*]; done) | assumption | (simp [go_sem, *]; done)); have : wr.frozen? ⟨w.heap.size, 3, none⟩ = false := (by rw [hfb _ _ (by first | (simp; done) | (simp; omega))]; first | (simp; done) | (simp [*]; done) | assumption | (simp [go_sem, *]; done)); have : wr.cell? ⟨w.heap.size, 4, none⟩ = some (.string tx) := (by rw [hcb _ _ (by first | (simp; done) | (simp; omega))]; first | (simp; done) | (simp [*]; done) | assumption | (simp [go_sem, *]; done)); have : wr.frozen? ⟨w.heap.size, 4, none⟩ = false := (by rw [hfb _ _ (by first | (simp; done) | (simp; omega))]; first | (simp; done) | (simp [*]; done) | assumption | (simp [go_sem, *]; done)); have : wr.cell? ⟨w.heap.size, 5, none⟩ = some (.bool lg) := (by rw [hcb _ _ (by first | (simp; done) | (simp; omega))]; first | (simp; done) | (simp [*]; done) | assumption | (simp [go_sem, *]; done)); have : wr.frozen? ⟨w.heap.size, 5, none⟩ = false := (by rw [hfb _ _ (by first | (simp; done) | (simp; omega))]; first | (simp; done) | (simp [*]; done) | assumption | (simp [go_sem, *]; done))
        clear hcb hfb
        by_cases hlt : k < l.length
        · have hCk := fun (W : World) (h : Below w.heap.size w W) => flat_at (Kd.C_below hr h) k hlt
          obtain ⟨ad, e1, hx0, hxj⟩ := hCk wr hBw
          subst e1
          have hCk : ∀ (W : World), Below w.heap.size w W → W.cell? (ad.add (k * 2)) = some (.string l[k].loc) ∧ W.cell? ⟨(ad.add (k * 2)).block, (ad.add (k * 2)).off + 1, none⟩ = some (.string l[k].dom) := fun W h => by
            obtain ⟨ad', e1, hy0, hyj⟩ := hCk W h
            obtain rfl : ad = ad' := Option.some.inj e1
            exact ⟨hy0 _ rfl, hyj 1 _ (by decide) rfl⟩
          clear hx0 hxj
          have hKk := fun w => HK.out k hlt w
          have hIk := fun w hr => HI.out k hlt w hr
          have hbadk := HR.out.1 k hlt
          have hstep : okA l k hlt → ∀ j (hj : j < l.length), j < k + 1 → okA l j hj := fun h j hj hjk => by
            rcases Nat.lt_or_ge j k with h' | h'
            · exact hne.out j hj h'
            · obtain rfl : j = k := by omega
              exact h
          unfold okA at hbadk
          generalize hx : l[k] = x at *
          generalize hfk : addrFault x.loc x.dom = fk at *
          generalize hik : hasA (l.take k) x = ik at *
          have hbadk := Lib.hid hbadk
          have hstep := Lib.hid hstep
          have hKk := Lib.hid hKk
          have hIk := Lib.hid hIk
          obtain ⟨q0, q1⟩ := hCk wr hBw
          have hCk := Lib.hid hCk
          have i0 : (0 : Int) ≤ (k : Int) := by omega
          have i1 : (k : Int) < (l.length : Int) := by omega
          have i2 : (k : Int) ≤ (c : Int) := by omega
          by_cases hfk0 : fk = 0
          · subst hfk0
            cases ik with
            | true =>
              obtain rfl := hbadk.out (by simp)
              go_wp2_with fail
              go_region_held3 (fun w' => w'.cell? ⟨w.heap.size, 3, none⟩ = some (.slice (some ad) l.length c) ∧ w'.cell? (ad.add (k * 2)) = some (.string x.loc) ∧ w'.cell? ⟨(ad.add (k * 2)).block, (ad.add (k * 2)).off + 1, none⟩ = some (.string x.dom))
                (first | exact ⟨s3, (hCk.out _ hBW3).1, (hCk.out _ hBW3).2⟩ | exact ⟨t3, (hCk.out _ hBW2).1, (hCk.out _ hBW2).2⟩ | go_keep)
                (first
                  | (go_at_call 54; refine (hKk.out _).mono ?_; rintro e w2 ⟨rfl, hb2⟩; obtain ⟨hc2, hf2⟩ := bcell hb2; have hz2 : wr.heap.size ≤ w2.heap.size := (by have := hb2.size; simp at this; omega); have hBW2 : Below w.heap.size w w2 := (by repeat (first | exact Below.refl _ _ | apply below_alloc | apply pw_below_drewN | apply below_drew1 | (refine Below.setCell ?_ (by first | (simp; done) | (simp; omega) | omega) _) | (refine below_then ?_ (by first | (simp; done) | (simp; omega) | omega) hb2) | exact hBw)); have t3 : w2.cell? ⟨w.heap.size, 3, none⟩ = some (.slice (some ad) l.length c) := (by rw [hc2 _ _ (by first | (simp; done) | (simp; omega))]; simp [*]))
                  | (go_at_call 55; refine (hIk.out _ (C_pre (Kd.C_below hr (by repeat (first | exact Below.refl _ _ | apply below_alloc | apply pw_below_drewN | apply below_drew1 | (refine Below.setCell ?_ (by first | (simp; done) | (simp; omega) | omega) _) | exact hBW2))) k hk)).mono ?_; rintro e w3 ⟨rfl, hb3⟩; obtain ⟨hc3, hf3⟩ := bcell hb3; have hBW3 : Below w.heap.size w w3 := (by repeat (first | exact Below.refl _ _ | apply below_alloc | apply pw_below_drewN | apply below_drew1 | (refine Below.setCell ?_ (by first | (simp; done) | (simp; omega) | omega) _) | (refine below_then ?_ (by first | (simp; done) | (simp; omega) | omega) hb3) | exact hBW2)); have s3 := (hc3 w.heap.size 3 (by omega)).trans t3))
              go_wp2_with fail
              go_ret
              exact ⟨(by first | rfl | (simp; done) | (simp [*]; done) | (rw [if_pos (by omega)]; first | rfl | (simp; done)) | (rw [if_neg (by omega)]; first | rfl | (simp; done)) | (simp; omega)), (by repeat (first | exact Below.refl _ _ | apply below_alloc | apply pw_below_drewN | apply below_drew1 | (refine Below.setCell ?_ (by first | (simp; done) | (simp; omega) | omega) _) | (refine below_then ?_ (by first | (simp; done) | (simp; omega) | omega) hb3) | (refine below_then ?_ (by first | (simp; done) | (simp; omega) | omega) hb2) | exact hBw))⟩
            | false =>
              have hstep := hstep.out (by simp [okA, hx, hfk, hik])
              clear hbadk
              go_wp2_with fail
              go_region_held3 (fun w' => w'.cell? ⟨w.heap.size, 3, none⟩ = some (.slice (some ad) l.length c) ∧ w'.cell? (ad.add (k * 2)) = some (.string x.loc) ∧ w'.cell? ⟨(ad.add (k * 2)).block, (ad.add (k * 2)).off + 1, none⟩ = some (.string x.dom))
                (first | exact ⟨s3, (hCk.out _ hBW3).1, (hCk.out _ hBW3).2⟩ | exact ⟨t3, (hCk.out _ hBW2).1, (hCk.out _ hBW2).2⟩ | go_keep)
                (first
                  | (go_at_call 54; refine (hKk.out _).mono ?_; rintro e w2 ⟨rfl, hb2⟩; obtain ⟨hc2, hf2⟩ := bcell hb2; have hz2 : wr.heap.size ≤ w2.heap.size := (by have := hb2.size; simp at this; omega); have hBW2 : Below w.heap.size w w2 := (by repeat (first | exact Below.refl _ _ | apply below_alloc | apply pw_below_drewN | apply below_drew1 | (refine Below.setCell ?_ (by first | (simp; done) | (simp; omega) | omega) _) | (refine below_then ?_ (by first | (simp; done) | (simp; omega) | omega) hb2) | exact hBw)); have t3 : w2.cell? ⟨w.heap.size, 3, none⟩ = some (.slice (some ad) l.length c) := (by rw [hc2 _ _ (by first | (simp; done) | (simp; omega))]; simp [*]))
                  | (go_at_call 55; refine (hIk.out _ (C_pre (Kd.C_below hr (by repeat (first | exact Below.refl _ _ | apply below_alloc | apply pw_below_drewN | apply below_drew1 | (refine Below.setCell ?_ (by first | (simp; done) | (simp; omega) | omega) _) | exact hBW2))) k hk)).mono ?_; rintro e w3 ⟨rfl, hb3⟩; obtain ⟨hc3, hf3⟩ := bcell hb3; have hBW3 : Below w.heap.size w w3 := (by repeat (first | exact Below.refl _ _ | apply below_alloc | apply pw_below_drewN | apply below_drew1 | (refine Below.setCell ?_ (by first | (simp; done) | (simp; omega) | omega) _) | (refine below_then ?_ (by first | (simp; done) | (simp; omega) | omega) hb3) | exact hBW2)); have s3 := (hc3 w.heap.size 3 (by omega)).trans t3))
              go_wp2_with fail
              go_roundw
              case rel => exact ⟨k + 1, by omega, by go_num, hstep, (by repeat (first | exact Below.refl _ _ | apply below_alloc | apply pw_below_drewN | apply below_drew1 | (refine Below.setCell ?_ (by first | (simp; done) | (simp; omega) | omega) _) | (refine Below.trans ?_ (Below.mono hb3 (by first | (simp; done) | (simp; omega) | omega))) | (refine Below.trans ?_ (Below.mono hb2 (by first | (simp; done) | (simp; omega) | omega))) | exact hB))⟩
              case measure => simp [intOf]; omega
          · obtain rfl := hbadk.out (by simp [hfk0])
            go_wp2_with fail
            refine wp_region_held_drew (S := fun w' => w'.cell? ⟨w.heap.size, 3, none⟩ = some (.slice (some ad) l.length c) ∧ w'.cell? (ad.add (k * 2)) = some (.string x.loc) ∧ w'.cell? ⟨(ad.add (k * 2)).block, (ad.add (k * 2)).off + 1, none⟩ = some (.string x.dom)) (by kernel_rfl) ?_ (fun hHeld => ?_)
            · go_keep
            have hfkb : (fk != 0) = true := by simp [hfk0]
            refine wpAnyH_take (i := 0) (oi := { dst := some 64, op := _, type := _, pos := _, after := _, guard := _ }) (v := .pointer (some ⟨w.heap.size, 3, none⟩)) rfl (by kernel_rfl) (by kernel_rfl) (by kernel_rfl) (fun _ _ _ h => h) (Or.inl ⟨by rfl, by (intro w hSw; (try dsimp only at hSw); first | (go_simp; done) | (go_simp; with_reducible rfl) | (go_simp; simp [*]; done))⟩) (by assumption) ?_; try simp only [Act.put, List.setIfInBounds_toArray, List.set_cons_zero, List.set_cons_succ]
            refine wpAnyH_take (i := 1) (oi := { dst := some 65, op := _, type := _, pos := _, after := _, guard := _ }) (v := .slice (some ad) l.length c) rfl (by kernel_rfl) (by kernel_rfl) (by kernel_rfl) (fun _ _ _ h => h) (Or.inl ⟨by rfl, by (intro w hSw; (try dsimp only at hSw); first | (go_simp; done) | (go_simp; with_reducible rfl) | (go_simp; simp [*]; done))⟩) (by assumption) ?_; try simp only [Act.put, List.setIfInBounds_toArray, List.set_cons_zero, List.set_cons_succ]
            refine wpAnyH_take (i := 2) (oi := { dst := some 66, op := _, type := _, pos := _, after := _, guard := _ }) (v := .int .i64 k) rfl (by kernel_rfl) (by kernel_rfl) (by kernel_rfl) (fun _ _ _ h => h) (Or.inl ⟨by rfl, by (intro w hSw; (try dsimp only at hSw); first | (go_simp; done) | (go_simp; with_reducible rfl) | (go_simp; simp [*]; done))⟩) (by assumption) ?_; try simp only [Act.put, List.setIfInBounds_toArray, List.set_cons_zero, List.set_cons_succ]
            refine wpAnyH_take (i := 3) (oi := { dst := some 67, op := _, type := _, pos := _, after := _, guard := _ }) (v := .pointer (some (ad.add (k * 2)))) rfl (by kernel_rfl) (by kernel_rfl) (by kernel_rfl) (fun _ _ _ h => h) (Or.inl ⟨by rfl, by (intro w hSw; (try dsimp only at hSw); first | (go_simp; done) | (go_simp; with_reducible rfl) | (go_simp; simp [*]; done))⟩) (by assumption) ?_; try simp only [Act.put, List.setIfInBounds_toArray, List.set_cons_zero, List.set_cons_succ]
            refine wpAnyH_take (i := 4) (oi := { dst := some 68, op := _, type := _, pos := _, after := _, guard := _ }) (v := .agg #[.string x.loc, .string x.dom]) rfl (by kernel_rfl) (by kernel_rfl) (by kernel_rfl) (fun _ _ _ h => h) (Or.inl ⟨by rfl, by (intro w hSw; (try dsimp only at hSw); first | (go_simp; done) | (go_simp; with_reducible rfl) | (go_simp; simp [*]; done))⟩) (by assumption) ?_; try simp only [Act.put, List.setIfInBounds_toArray, List.set_cons_zero, List.set_cons_succ]
            refine wpAnyH_ready (rs := [5]) (by kernel_rfl) (by simp) ?_
            refine AllReadyH.cons (o := { dst := some 69, op := _, type := _, pos := _, after := _, guard := _ }) rfl (fun K hK => ?_) AllReadyH.nil
            go_simp
            go_at_call 54
            refine (hKk.out _).mono ?_
            rintro e w2 ⟨rfl, hb2⟩
            obtain ⟨hc2, hf2⟩ := bcell hb2
            have hBW2 : Below w.heap.size w w2 := (by repeat (first | exact Below.refl _ _ | apply below_alloc | apply pw_below_drewN | apply below_drew1 | (refine Below.setCell ?_ (by first | (simp; done) | (simp; omega) | omega) _) | (refine below_then ?_ (by first | (simp; done) | (simp; omega) | omega) hb2) | exact hBw))
            go_wp2_with fail
            refine hK.out _ _ ?_ (fun hHeld => ?_)
            · exact ⟨by rw [hc2 _ _ (by first | (simp; done) | (simp; omega))]; simp [*], (hCk.out _ hBW2).1, (hCk.out _ hBW2).2⟩
            clear hK K
            refine wpAnyH_take (i := 6) (oi := { dst := some 70, op := _, type := _, pos := _, after := _, guard := _ }) (v := .bool true) rfl (by kernel_rfl) (by kernel_rfl) (by kernel_rfl) (fun _ _ _ h => h) (Or.inl ⟨by rfl, by (intro w hSw; (try dsimp only at hSw); first | (go_simp; done) | (go_simp; with_reducible rfl) | (go_simp; simp [*]; done))⟩) (by assumption) ?_; try simp only [Act.put, List.setIfInBounds_toArray, List.set_cons_zero, List.set_cons_succ]
            refine wpAnyH_take (i := 7) (oi := { dst := some 71, op := _, type := _, pos := _, after := _, guard := _ }) (v := .bool true) rfl (by kernel_rfl) (by kernel_rfl) (by kernel_rfl) (fun _ _ _ h => h) (Or.inl ⟨by rfl, by (intro w hSw; (try dsimp only at hSw); first | (go_simp; done) | (go_simp; with_reducible rfl) | (go_simp; simp [*]; done))⟩) (by assumption) ?_; try simp only [Act.put, List.setIfInBounds_toArray, List.set_cons_zero, List.set_cons_succ]
            refine wpAnyH_take (i := 8) (oi := { dst := some 72, op := _, type := _, pos := _, after := _, guard := _ }) (v := undef) rfl (by kernel_rfl) (by kernel_rfl) (by kernel_rfl) (fun _ _ _ h => h) (Or.inr ⟨by rfl, rfl⟩) (by assumption) ?_; try simp only [Act.put, List.setIfInBounds_toArray, List.set_cons_zero, List.set_cons_succ]
            refine wpAnyH_take (i := 9) (oi := { dst := some 73, op := _, type := _, pos := _, after := _, guard := _ }) (v := undef) rfl (by kernel_rfl) (by kernel_rfl) (by kernel_rfl) (fun _ _ _ h => h) (Or.inr ⟨by rfl, rfl⟩) (by assumption) ?_; try simp only [Act.put, List.setIfInBounds_toArray, List.set_cons_zero, List.set_cons_succ]
            refine wpAnyH_take (i := 10) (oi := { dst := some 74, op := _, type := _, pos := _, after := _, guard := _ }) (v := undef) rfl (by kernel_rfl) (by kernel_rfl) (by kernel_rfl) (fun _ _ _ h => h) (Or.inr ⟨by rfl, rfl⟩) (by assumption) ?_; try simp only [Act.put, List.setIfInBounds_toArray, List.set_cons_zero, List.set_cons_succ]
            refine wpAnyH_take (i := 11) (oi := { dst := some 75, op := _, type := _, pos := _, after := _, guard := _ }) (v := undef) rfl (by kernel_rfl) (by kernel_rfl) (by kernel_rfl) (fun _ _ _ h => h) (Or.inr ⟨by rfl, rfl⟩) (by assumption) ?_; try simp only [Act.put, List.setIfInBounds_toArray, List.set_cons_zero, List.set_cons_succ]
            refine wpAnyH_take (i := 12) (oi := { dst := some 76, op := _, type := _, pos := _, after := _, guard := _ }) (v := undef) rfl (by kernel_rfl) (by kernel_rfl) (by kernel_rfl) (fun _ _ _ h => h) (Or.inr ⟨by rfl, rfl⟩) (by assumption) ?_; try simp only [Act.put, List.setIfInBounds_toArray, List.set_cons_zero, List.set_cons_succ]
            refine wpAnyH_take (i := 13) (oi := { dst := some 77, op := _, type := _, pos := _, after := _, guard := _ }) (v := undef) rfl (by kernel_rfl) (by kernel_rfl) (by kernel_rfl) (fun _ _ _ h => h) (Or.inr ⟨by rfl, rfl⟩) (by assumption) ?_; try simp only [Act.put, List.setIfInBounds_toArray, List.set_cons_zero, List.set_cons_succ]
            refine wpAnyH_take (i := 14) (oi := { dst := some 78, op := _, type := _, pos := _, after := _, guard := _ }) (v := undef) rfl (by kernel_rfl) (by kernel_rfl) (by kernel_rfl) (fun _ _ _ h => h) (Or.inr ⟨by rfl, rfl⟩) (by assumption) ?_; try simp only [Act.put, List.setIfInBounds_toArray, List.set_cons_zero, List.set_cons_succ]
            refine wpAnyH_take (i := 15) (oi := { dst := some 79, op := _, type := _, pos := _, after := _, guard := _ }) (v := undef) rfl (by kernel_rfl) (by kernel_rfl) (by kernel_rfl) (fun _ _ _ h => h) (Or.inr ⟨by rfl, rfl⟩) (by assumption) ?_; try simp only [Act.put, List.setIfInBounds_toArray, List.set_cons_zero, List.set_cons_succ]
            refine wpAnyH_take (i := 16) (oi := { dst := some 80, op := _, type := _, pos := _, after := _, guard := _ }) (v := undef) rfl (by kernel_rfl) (by kernel_rfl) (by kernel_rfl) (fun _ _ _ h => h) (Or.inr ⟨by rfl, rfl⟩) (by assumption) ?_; try simp only [Act.put, List.setIfInBounds_toArray, List.set_cons_zero, List.set_cons_succ]
            refine wpAnyH_take (i := 17) (oi := { dst := some 81, op := _, type := _, pos := _, after := _, guard := _ }) (v := undef) rfl (by kernel_rfl) (by kernel_rfl) (by kernel_rfl) (fun _ _ _ h => h) (Or.inr ⟨by rfl, rfl⟩) (by assumption) ?_; try simp only [Act.put, List.setIfInBounds_toArray, List.set_cons_zero, List.set_cons_succ]
            refine wpAnyH_take (i := 18) (oi := { dst := some 82, op := _, type := _, pos := _, after := _, guard := _ }) (v := .bool true) rfl (by kernel_rfl) (by kernel_rfl) (by kernel_rfl) (fun _ _ _ h => h) (Or.inl ⟨by rfl, by (intro w hSw; (try dsimp only at hSw); first | (go_simp; done) | (go_simp; with_reducible rfl) | (go_simp; simp [*]; done))⟩) (by assumption) ?_; try simp only [Act.put, List.setIfInBounds_toArray, List.set_cons_zero, List.set_cons_succ]
            refine wpAnyH_done (by kernel_rfl) ?_ _
            go_wp2_with fail
            go_ret
            exact ⟨(by first | rfl | (simp; done) | (simp [*]; done) | (rw [if_pos (by omega)]; first | rfl | (simp; done)) | (rw [if_neg (by omega)]; first | rfl | (simp; done)) | (simp; omega)), (by repeat (first | exact Below.refl _ _ | apply below_alloc | apply pw_below_drewN | apply below_drew1 | (refine Below.setCell ?_ (by first | (simp; done) | (simp; omega) | omega) _) | (refine below_then ?_ (by first | (simp; done) | (simp; omega) | omega) hb2) | exact hBw))⟩
        · obtain rfl : k = l.length := by omega
          by_cases h4 : st = 4
          · obtain rfl := HR.out.2.1 (fun k hk => hne.out k hk hk) (.inl h4)
            go_wp2_with fail
            go_ret
            exact ⟨(by first | rfl | (simp; done) | (simp [*]; done) | (rw [if_pos (by omega)]; first | rfl | (simp; done)) | (rw [if_neg (by omega)]; first | rfl | (simp; done)) | (simp; omega)), (by repeat (first | exact Below.refl _ _ | apply below_alloc | apply pw_below_drewN | apply below_drew1 | (refine Below.setCell ?_ (by first | (simp; done) | (simp; omega) | omega) _) | exact hBw))⟩
          · by_cases ht0 : tx.size = 0
            · obtain rfl := size0 ht0
              cases lg with
              | false =>
                obtain rfl := HR.out.2.1 (fun k hk => hne.out k hk hk) (.inr ⟨rfl, rfl⟩)
                go_wp2_with fail
                go_ret
                exact ⟨(by first | rfl | (simp; done) | (simp [*]; done) | (rw [if_pos (by omega)]; first | rfl | (simp; done)) | (rw [if_neg (by omega)]; first | rfl | (simp; done)) | (simp; omega)), (by repeat (first | exact Below.refl _ _ | apply below_alloc | apply pw_below_drewN | apply below_drew1 | (refine Below.setCell ?_ (by first | (simp; done) | (simp; omega) | omega) _) | exact hBw))⟩
              | true =>
                obtain rfl := HR.out.2.2 (by simp [h4])
                go_wp2_with fail
                go_ret
                exact ⟨(by first | rfl | (simp; done) | (simp [*]; done) | (rw [if_pos (by omega)]; first | rfl | (simp; done)) | (rw [if_neg (by omega)]; first | rfl | (simp; done)) | (simp; omega)), (by repeat (first | exact Below.refl _ _ | apply below_alloc | apply pw_below_drewN | apply below_drew1 | (refine Below.setCell ?_ (by first | (simp; done) | (simp; omega) | omega) _) | exact hBw))⟩
            · have hx := beq_empty_no ht0
              obtain rfl := HR.out.2.2 (by simp [h4, ht0])
              go_wp2_with fail
              go_ret
              exact ⟨(by first | rfl | (simp; done) | (simp [*]; done) | (rw [if_pos (by omega)]; first | rfl | (simp; done)) | (rw [if_neg (by omega)]; first | rfl | (simp; done)) | (simp; omega)), (by repeat (first | exact Below.refl _ _ | apply below_alloc | apply pw_below_drewN | apply below_drew1 | (refine Below.setCell ?_ (by first | (simp; done) | (simp; omega) | omega) _) | exact hBw))⟩
  · obtain rfl := hn (fun hh => hf hh.2.2.2.2.1)
    clear hq hn
    go_enter Tryd.func17, Tryd.ntmps17
    go_wp2_with ((go_at_call 53; first | (refine (in_yes _ _ _ _ (by omega) (by omega)).mono ?_; rintro e w' ⟨rfl, rfl⟩) | (refine (in_no _ _ _ _ (by omega)).mono ?_; rintro e w' ⟨rfl, rfl⟩)))
    refine (HC.out _).mono ?_
    rintro e w1 ⟨rfl, hb1⟩
    obtain ⟨hc_w1, hf_w1⟩ := bcell hb1
    have s_ := hb1.size
    (try simp at s_)
    (first | (have : w.heap.size < w1.heap.size := by omega) | skip)
    have : w.heap.size ≤ w1.heap.size := by omega
    clear s_
    have : w1.cell? ⟨w.heap.size, 0, none⟩ = some (.int .i64 st) := (by rw [hc_w1 _ _ (by first | (simp; done) | (simp; omega))]; first | (simp; done) | (simp [*]; done) | assumption | (simp [go_sem, *]; done)); have : w1.frozen? ⟨w.heap.size, 0, none⟩ = false := (by rw [hf_w1 _ _ (by first | (simp; done) | (simp; omega))]; first | (simp; done) | (simp [*]; done) | assumption | (simp [go_sem, *]; done)); have : w1.cell? ⟨w.heap.size, 1, none⟩ = some (.string fr.loc) := (by rw [hc_w1 _ _ (by first | (simp; done) | (simp; omega))]; first | (simp; done) | (simp [*]; done) | assumption | (simp [go_sem, *]; done)); have : w1.frozen? ⟨w.heap.size, 1, none⟩ = false := (by rw [hf_w1 _ _ (by first | (simp; done) | (simp; omega))]; first | (simp; done) | (simp [*]; done) | assumption | (simp [go_sem, *]; done)); have : w1.cell? ⟨w.heap.size, 2, none⟩ = some (.string fr.dom) := (by rw [hc_w1 _ _ (by first | (simp; done) | (simp; omega))]; first | (simp; done) | (simp [*]; done) | assumption | (simp [go_sem, *]; done)); have : w1.frozen? ⟨w.heap.size, 2, none⟩ = false := (by rw [hf_w1 _ _ (by first | (simp; done) | (simp; omega))]; first | (simp; done) | (simp [*]; done) | assumption | (simp [go_sem, *]; done)); have : w1.cell? ⟨w.heap.size, 3, none⟩ = some (.slice A l.length c) := (by rw [hc_w1 _ _ (by first | (simp; done) | (simp; omega))]; first | (simp; done) | (simp [*]; done) | assumption | (simp [go_sem, *]; done)); have : w1.frozen? ⟨w.heap.size, 3, none⟩ = false := (by rw [hf_w1 _ _ (by first | (simp; done) | (simp; omega))]; first | (simp; done) | (simp [*]; done) | assumption | (simp [go_sem, *]; done)); have : w1.cell? ⟨w.heap.size, 4, none⟩ = some (.string tx) := (by rw [hc_w1 _ _ (by first | (simp; done) | (simp; omega))]; first | (simp; done) | (simp [*]; done) | assumption | (simp [go_sem, *]; done)); have : w1.frozen? ⟨w.heap.size, 4, none⟩ = false := (by rw [hf_w1 _ _ (by first | (simp; done) | (simp; omega))]; first | (simp; done) | (simp [*]; done) | assumption | (simp [go_sem, *]; done)); have : w1.cell? ⟨w.heap.size, 5, none⟩ = some (.bool lg) := (by rw [hc_w1 _ _ (by first | (simp; done) | (simp; omega))]; first | (simp; done) | (simp [*]; done) | assumption | (simp [go_sem, *]; done)); have : w1.frozen? ⟨w.heap.size, 5, none⟩ = false := (by rw [hf_w1 _ _ (by first | (simp; done) | (simp; omega))]; first | (simp; done) | (simp [*]; done) | assumption | (simp [go_sem, *]; done))
    clear hc_w1 hf_w1
    go_wp2_with ((go_at_call 53; first | (refine (in_yes _ _ _ _ (by omega) (by omega)).mono ?_; rintro e w' ⟨rfl, rfl⟩) | (refine (in_no _ _ _ _ (by omega)).mono ?_; rintro e w' ⟨rfl, rfl⟩)))
    go_ret
    exact ⟨(by first | rfl | (simp; done) | (simp [*]; done) | (rw [if_pos (by omega)]; first | rfl | (simp; done)) | (rw [if_neg (by omega)]; first | rfl | (simp; done)) | (simp; omega)), (by repeat (first | exact Below.refl _ _ | apply below_alloc | apply pw_below_drewN | apply below_drew1 | (refine Below.setCell ?_ (by first | (simp; done) | (simp; omega) | omega) _) | (refine below_then ?_ (by first | (simp; done) | (simp; omega) | omega) hb1)))⟩
end Go.Proofs.YtpeenmbonhijmaaDoor.H
