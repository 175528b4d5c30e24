/- Sessions: lmtp.Check of a session whose text is being told. -/
import Derived.Test.YtpeenmbonhijmaaDoorLmtpD
namespace Go.Proofs.YtpeenmbonhijmaaDoor.H
open Go.RowKit Go.Proofs.YtpeenmbonhijmaaDoorW.PrintWords Go.Proofs.YtpeenmbonhijmaaDoorW.PrintLast Go.Proofs.YtpeenmbonhijmaaDoorW.PrintMore Go.Proofs.YtpeenmbonhijmaaDoor.U
set_option linter.unusedVariables false
set_option linter.unusedSimpArgs false
attribute [local go_sem high] eqAAddress eqbAAddress_self
set_option maxHeartbeats 1000000 in
set_option maxRecDepth 100000 in
theorem lmtpCheck_4 (fr : AAddress) (A : Option Addr) (c : Nat) (l : List AAddress) (tx : ByteArray) (lg : Bool) (w : World) (hr : Kd.C kAAddress w A l.length l) (hlc : l.length ≤ c) (hl : l.length ≤ 5) (ht : tx.size ≤ 2000) (m : Int) (ha : fr.loc.size ≤ 1048576) (hb : fr.dom.size ≤ 1048576) (hs : ∀ x ∈ l, x.loc.size ≤ 1048576 ∧ x.dom.size ≤ 1048576) (hm : w.cell? ⟨0, 0, none⟩ = some (.int .i64 m)) (hg : 0 < w.heap.size) :
    Calls Tryd.prog 15 #[.agg #[.int .i64 4, .string fr.loc, .string fr.dom, .slice A l.length c, .string tx, .bool lg]] w fun e w' => e = .returned (.int .i64 (sessFault 4 fr l tx lg)) ∧ Below w.heap.size w w' := by
  have hi : ¬ (5 : Int) < l.length := by omega
  have hi2 : ¬ (2000 : Int) < tx.size := by omega
  have HC := fun w hm hg => check_calls fr.loc fr.dom m w ha hb hm hg
  have HK := fun k (hk : k < l.length) w hm hg => check_calls l[k].loc l[k].dom m w (hs _ (List.getElem_mem hk)).1 (hs _ (List.getElem_mem hk)).2 hm hg
  have HI : ∀ k (hk : k < l.length) (w : World), Kd.C kAAddress w A k (l.take k) → Calls Tryd.prog 52 #[.slice A k c, .agg #[.string l[k].loc, .string l[k].dom]] w fun e w' => e = .returned (.bool (hasA (l.take k) l[k])) ∧ Below w.heap.size w w' := fun k hk w hr => by
    have hlk : (l.take k).length = k := by rw [List.length_take]; omega
    have h := addrContains_calls A c (l.take k) l[k] w (by rw [hlk]; exact hr)
    rw [hlk] at h
    exact h
  have hq := fun h => sess_yes (st := 4) (fr := fr) (l := l) (tx := tx) (lg := lg) h
  have hn := fun h => sess_no (st := 4) (fr := fr) (l := l) (tx := tx) (lg := lg) h
  generalize sessFault 4 fr l tx lg = r at *
  unfold sessMay at hq hn
  generalize addrFault fr.loc fr.dom = f at *
  have HC := Lib.hid HC
  have HK := Lib.hid HK
  have HI := Lib.hid HI
  by_cases hf : f = 0
  · subst hf
    have hbad : ∀ k (hk : k < l.length), ¬ okA l k hk → r = 11 := fun k hk h => hn fun hh => h (by
      have h2 := hh.2.2.2.2.2.1
      rw [if_pos (by omega)] at h2
      exact h2.2 k hk)
    have hend : (∀ k (hk : k < l.length), okA l k hk) → 0 < l.length → ((4 : Int) = 4 ∨ (tx.size = 0 ∧ lg = false)) → r = 0 := fun h h0 h1 => hq ⟨by omega, by omega, hl, ht, by rw [if_pos (by omega)], by rw [if_pos (by omega)]; exact ⟨h0, h⟩, h1⟩
    have hzero : l.length = 0 → r = 11 := fun h => hn fun hh => by
      have h2 := hh.2.2.2.2.2.1
      rw [if_pos (by omega)] at h2
      omega
    have hthree : (4 : Int) = 3 → ¬ (tx.size = 0 ∧ lg = false) → r = 11 := fun h h1 => hn fun hh => h1 (hh.2.2.2.2.2.2.resolve_left (by omega))
    have HR := Lib.hid (And.intro hbad (And.intro hend (And.intro hzero hthree)))
    clear hbad hend hzero hthree hq hn
    go_enter Tryd.func15, Tryd.ntmps15
    go_wp2_with fail
    refine (HC.out _ (cell_below (B := w.heap.size) (by repeat (first | exact Below.refl _ _ | apply below_alloc | apply pw_below_drewN | apply below_drew1 | (refine Below.setCell ?_ (by first | (simp; done) | (simp; omega) | omega) _) )) hm hg) (Nat.lt_of_lt_of_le hg (Below.size (show Below w.heap.size w _ from (by repeat (first | exact Below.refl _ _ | apply below_alloc | apply pw_below_drewN | apply below_drew1 | (refine Below.setCell ?_ (by first | (simp; done) | (simp; omega) | omega) _) )))))).mono ?_
    rintro e w1 ⟨rfl, hb1⟩
    obtain ⟨hc_w1, hf_w1⟩ := bcell hb1
    have s_ := hb1.size
    (try simp at s_)
    (first | (have : w.heap.size < w1.heap.size := by omega) | skip)
    have : w.heap.size ≤ w1.heap.size := by omega
    (first | (have : w.heap.size + 1 < w1.heap.size := by omega) | skip)
    have : w.heap.size + 1 ≤ w1.heap.size := by omega
    clear s_
    have : w1.cell? ⟨w.heap.size, 0, none⟩ = some (.int .i64 4) := (by rw [hc_w1 _ _ (by first | (simp; done) | (simp; omega))]; first | (simp; done) | (simp [*]; done) | assumption | (simp [go_sem, *]; done)); have : w1.frozen? ⟨w.heap.size, 0, none⟩ = false := (by rw [hf_w1 _ _ (by first | (simp; done) | (simp; omega))]; first | (simp; done) | (simp [*]; done) | assumption | (simp [go_sem, *]; done)); have : w1.cell? ⟨w.heap.size, 1, none⟩ = some (.string fr.loc) := (by rw [hc_w1 _ _ (by first | (simp; done) | (simp; omega))]; first | (simp; done) | (simp [*]; done) | assumption | (simp [go_sem, *]; done)); have : w1.frozen? ⟨w.heap.size, 1, none⟩ = false := (by rw [hf_w1 _ _ (by first | (simp; done) | (simp; omega))]; first | (simp; done) | (simp [*]; done) | assumption | (simp [go_sem, *]; done)); have : w1.cell? ⟨w.heap.size, 2, none⟩ = some (.string fr.dom) := (by rw [hc_w1 _ _ (by first | (simp; done) | (simp; omega))]; first | (simp; done) | (simp [*]; done) | assumption | (simp [go_sem, *]; done)); have : w1.frozen? ⟨w.heap.size, 2, none⟩ = false := (by rw [hf_w1 _ _ (by first | (simp; done) | (simp; omega))]; first | (simp; done) | (simp [*]; done) | assumption | (simp [go_sem, *]; done)); have : w1.cell? ⟨w.heap.size, 3, none⟩ = some (.slice A l.length c) := (by rw [hc_w1 _ _ (by first | (simp; done) | (simp; omega))]; first | (simp; done) | (simp [*]; done) | assumption | (simp [go_sem, *]; done)); have : w1.frozen? ⟨w.heap.size, 3, none⟩ = false := (by rw [hf_w1 _ _ (by first | (simp; done) | (simp; omega))]; first | (simp; done) | (simp [*]; done) | assumption | (simp [go_sem, *]; done)); have : w1.cell? ⟨w.heap.size, 4, none⟩ = some (.string tx) := (by rw [hc_w1 _ _ (by first | (simp; done) | (simp; omega))]; first | (simp; done) | (simp [*]; done) | assumption | (simp [go_sem, *]; done)); have : w1.frozen? ⟨w.heap.size, 4, none⟩ = false := (by rw [hf_w1 _ _ (by first | (simp; done) | (simp; omega))]; first | (simp; done) | (simp [*]; done) | assumption | (simp [go_sem, *]; done)); have : w1.cell? ⟨w.heap.size, 5, none⟩ = some (.bool lg) := (by rw [hc_w1 _ _ (by first | (simp; done) | (simp; omega))]; first | (simp; done) | (simp [*]; done) | assumption | (simp [go_sem, *]; done)); have : w1.frozen? ⟨w.heap.size, 5, none⟩ = false := (by rw [hf_w1 _ _ (by first | (simp; done) | (simp; omega))]; first | (simp; done) | (simp [*]; done) | assumption | (simp [go_sem, *]; done))
    have : w1.cell? ⟨w.heap.size + 1, 0, none⟩ = some (.int .i64 4) := (by rw [hc_w1 _ _ (by first | (simp; done) | (simp; omega))]; first | (simp; done) | (simp [*]; done) | assumption | (simp [go_sem, *]; done)); have : w1.frozen? ⟨w.heap.size + 1, 0, none⟩ = false := (by rw [hf_w1 _ _ (by first | (simp; done) | (simp; omega))]; first | (simp; done) | (simp [*]; done) | assumption | (simp [go_sem, *]; done)); have : w1.cell? ⟨w.heap.size + 1, 1, none⟩ = some (.string ⟨#[]⟩) := (by rw [hc_w1 _ _ (by first | (simp; done) | (simp; omega))]; first | (simp; done) | (simp [*]; done) | assumption | (simp [go_sem, *]; done)); have : w1.frozen? ⟨w.heap.size + 1, 1, none⟩ = false := (by rw [hf_w1 _ _ (by first | (simp; done) | (simp; omega))]; first | (simp; done) | (simp [*]; done) | assumption | (simp [go_sem, *]; done)); have : w1.cell? ⟨w.heap.size + 1, 2, none⟩ = some (.string ⟨#[]⟩) := (by rw [hc_w1 _ _ (by first | (simp; done) | (simp; omega))]; first | (simp; done) | (simp [*]; done) | assumption | (simp [go_sem, *]; done)); have : w1.frozen? ⟨w.heap.size + 1, 2, none⟩ = false := (by rw [hf_w1 _ _ (by first | (simp; done) | (simp; omega))]; first | (simp; done) | (simp [*]; done) | assumption | (simp [go_sem, *]; done)); have : w1.cell? ⟨w.heap.size + 1, 3, none⟩ = some (.slice none 0 0) := (by rw [hc_w1 _ _ (by first | (simp; done) | (simp; omega))]; first | (simp; done) | (simp [*]; done) | assumption | (simp [go_sem, *]; done)); have : w1.frozen? ⟨w.heap.size + 1, 3, none⟩ = false := (by rw [hf_w1 _ _ (by first | (simp; done) | (simp; omega))]; first | (simp; done) | (simp [*]; done) | assumption | (simp [go_sem, *]; done)); have : w1.cell? ⟨w.heap.size + 1, 4, none⟩ = some (.string ⟨#[]⟩) := (by rw [hc_w1 _ _ (by first | (simp; done) | (simp; omega))]; first | (simp; done) | (simp [*]; done) | assumption | (simp [go_sem, *]; done)); have : w1.frozen? ⟨w.heap.size + 1, 4, none⟩ = false := (by rw [hf_w1 _ _ (by first | (simp; done) | (simp; omega))]; first | (simp; done) | (simp [*]; done) | assumption | (simp [go_sem, *]; done)); have : w1.cell? ⟨w.heap.size + 1, 5, none⟩ = some (.bool false) := (by rw [hc_w1 _ _ (by first | (simp; done) | (simp; omega))]; first | (simp; done) | (simp [*]; done) | assumption | (simp [go_sem, *]; done)); have : w1.frozen? ⟨w.heap.size + 1, 5, none⟩ = false := (by rw [hf_w1 _ _ (by first | (simp; done) | (simp; omega))]; first | (simp; done) | (simp [*]; done) | assumption | (simp [go_sem, *]; done))
    clear hc_w1 hf_w1
    go_wp2_with fail
    have hB0 : Below w.heap.size w ((w1.setCell ⟨w.heap.size + 1, 1, none⟩ (.string fr.loc)).setCell ⟨w.heap.size + 1, 2, none⟩ (.string fr.dom)) := (by (iterate 2 (refine Below.setCell ?_ (by first | (simp; done) | (simp; omega) | omega) _)); exact (by repeat (first | exact Below.refl _ _ | apply below_alloc | apply pw_below_drewN | apply below_drew1 | (refine Below.setCell ?_ (by first | (simp; done) | (simp; omega) | omega) _) | (refine below_then ?_ (by first | (simp; done) | (simp; omega) | omega) hb1))))
    go_loopw [55] (fun i wr => ∃ k : Nat, k ≤ l.length ∧ i = .int .i64 k ∧ (∀ j (hj : j < l.length), j < k → okA l j hj) ∧ Below (w.heap.size + 2) ((w1.setCell ⟨w.heap.size + 1, 1, none⟩ (.string fr.loc)).setCell ⟨w.heap.size + 1, 2, none⟩ (.string fr.dom)) wr) (fun i _ => l.length - (intOf i).toNat)
    case atStart => exact ⟨0, Nat.zero_le _, rfl, fun j _ hj => absurd hj (Nat.not_lt_zero _), Below.refl _ _⟩
    case round =>
      obtain ⟨k, hk, rfl, hne, hB⟩ := hrel
      have hne := Lib.hid hne
      have hBw : Below w.heap.size w wr := Below.trans hB0 (Below.mono hB (by omega))
      obtain ⟨hcb, hfb⟩ := bcellB hB
      have hz := hB.size
      simp at hz
      have hzw : w.heap.size + 1 < wr.heap.size := by omega
      have : wr.cell? ⟨w.heap.size, 0, none⟩ = some (.int .i64 4) := (by rw [hcb _ _ (by first | (simp; done) | (simp; omega))]; first | (simp; done) | (simp [*]; done) | assumption | (simp [go_sem, *]; done)); have : wr.frozen? ⟨w.heap.size, 0, none⟩ = false := (by rw [hfb _ _ (by first | (simp; done) | (simp; omega))]; first | (simp; done) | (simp [*]; done) | assumption | (simp [go_sem, *]; done)); have : wr.cell? ⟨w.heap.size, 1, none⟩ = some (.string fr.loc) := (by rw [hcb _ _ (by first | (simp; done) | (simp; omega))]; first | (simp; done) | (simp [*]; done) | assumption | (simp [go_sem, *]; done)); have : wr.frozen? ⟨w.heap.size, 1, none⟩ = false := (by rw [hfb _ _ (by first | (simp; done) | (simp; omega))]; first | (simp; done) | (simp [*]; done) | assumption | (simp [go_sem, *]; done)); have : wr.cell? ⟨w.heap.size, 2, none⟩ = some (.string fr.dom) := (by rw [hcb _ _ (by first | (simp; done) | (simp; omega))]; first | (simp; done) | (simp [*]; done) | assumption | (simp [go_sem, *]; done)); have : wr.frozen? ⟨w.heap.size, 2, none⟩ = false := (by rw [hfb _ _ (by first | (simp; done) | (simp; omega))]; first | (simp; done) | (simp [*]; done) | assumption | (simp [go_sem, *]; done)); have : wr.cell? ⟨w.heap.size, 3, none⟩ = some (.slice A l.length c) := (by rw [hcb _ _ (by first | (simp; done) | (simp; omega))]; first | (simp; done) | (simp [*]; done) | assumption | (simp [go_sem, *]; done)); have : wr.frozen? ⟨w.heap.size, 3, none⟩ = false := (by rw [hfb _ _ (by first | (simp; done) | (simp; omega))]; first | (simp; done) | (simp [*]; done) | assumption | (simp [go_sem, *]; done)); have : wr.cell? ⟨w.heap.size, 4, none⟩ = some (.string tx) := (by rw [hcb _ _ (by first | (simp; done) | (simp; omega))]; first | (simp; done) | (simp [*]; done) | assumption | (simp [go_sem, *]; done)); have : wr.frozen? ⟨w.heap.size, 4, none⟩ = false := (by rw [hfb _ _ (by first | (simp; done) | (simp; omega))]; first | (simp; done) | (simp [*]; done) | assumption | (simp [go_sem, *]; done)); have : wr.cell? ⟨w.heap.size, 5, none⟩ = some (.bool lg) := (by rw [hcb _ _ (by first | (simp; done) | (simp; omega))]; first | (simp; done) | (simp [*]; done) | assumption | (simp [go_sem, *]; done)); have : wr.frozen? ⟨w.heap.size, 5, none⟩ = false := (by rw [hfb _ _ (by first | (simp; done) | (simp; omega))]; first | (simp; done) | (simp [*]; done) | assumption | (simp [go_sem, *]; done))
      have : wr.cell? ⟨w.heap.size + 1, 0, none⟩ = some (.int .i64 4) := (by rw [hcb _ _ (by first | (simp; done) | (simp; omega))]; first | (simp; done) | (simp [*]; done) | assumption | (simp [go_sem, *]; done)); have : wr.frozen? ⟨w.heap.size + 1, 0, none⟩ = false := (by rw [hfb _ _ (by first | (simp; done) | (simp; omega))]; first | (simp; done) | (simp [*]; done) | assumption | (simp [go_sem, *]; done)); have : wr.cell? ⟨w.heap.size + 1, 1, none⟩ = some (.string fr.loc) := (by rw [hcb _ _ (by first | (simp; done) | (simp; omega))]; first | (simp; done) | (simp [*]; done) | assumption | (simp [go_sem, *]; done)); have : wr.frozen? ⟨w.heap.size + 1, 1, none⟩ = false := (by rw [hfb _ _ (by first | (simp; done) | (simp; omega))]; first | (simp; done) | (simp [*]; done) | assumption | (simp [go_sem, *]; done)); have : wr.cell? ⟨w.heap.size + 1, 2, none⟩ = some (.string fr.dom) := (by rw [hcb _ _ (by first | (simp; done) | (simp; omega))]; first | (simp; done) | (simp [*]; done) | assumption | (simp [go_sem, *]; done)); have : wr.frozen? ⟨w.heap.size + 1, 2, none⟩ = false := (by rw [hfb _ _ (by first | (simp; done) | (simp; omega))]; first | (simp; done) | (simp [*]; done) | assumption | (simp [go_sem, *]; done)); have : wr.cell? ⟨w.heap.size + 1, 3, none⟩ = some (.slice none 0 0) := (by rw [hcb _ _ (by first | (simp; done) | (simp; omega))]; first | (simp; done) | (simp [*]; done) | assumption | (simp [go_sem, *]; done)); have : wr.frozen? ⟨w.heap.size + 1, 3, none⟩ = false := (by rw [hfb _ _ (by first | (simp; done) | (simp; omega))]; first | (simp; done) | (simp [*]; done) | assumption | (simp [go_sem, *]; done)); have : wr.cell? ⟨w.heap.size + 1, 4, none⟩ = some (.string ⟨#[]⟩) := (by rw [hcb _ _ (by first | (simp; done) | (simp; omega))]; first | (simp; done) | (simp [*]; done) | assumption | (simp [go_sem, *]; done)); have : wr.frozen? ⟨w.heap.size + 1, 4, none⟩ = false := (by rw [hfb _ _ (by first | (simp; done) | (simp; omega))]; first | (simp; done) | (simp [*]; done) | assumption | (simp [go_sem, *]; done)); have : wr.cell? ⟨w.heap.size + 1, 5, none⟩ = some (.bool false) := (by rw [hcb _ _ (by first | (simp; done) | (simp; omega))]; first | (simp; done) | (simp [*]; done) | assumption | (simp [go_sem, *]; done)); have : wr.frozen? ⟨w.heap.size + 1, 5, none⟩ = false := (by rw [hfb _ _ (by first | (simp; done) | (simp; omega))]; first | (simp; done) | (simp [*]; done) | assumption | (simp [go_sem, *]; done))
      clear hcb hfb
      by_cases hlt : k < l.length
      · obtain ⟨ad, e1, hx0, hxj⟩ := flat_at (Kd.C_below hr hBw) k hlt
        subst e1
        have q0 := hx0 _ rfl; have q1 := hxj 1 _ (by decide) rfl
        clear hx0 hxj
        have hKk := fun w hm hg => HK.out k hlt w hm hg
        have hIk := fun w hr => HI.out k hlt w hr
        have hbadk := HR.out.1 k hlt
        have hstep : okA l k hlt → ∀ j (hj : j < l.length), j < k + 1 → okA l j hj := fun h j hj hjk => by
          rcases Nat.lt_or_ge j k with h' | h'
          · exact hne.out j hj h'
          · obtain rfl : j = k := by omega
            exact h
        unfold okA at hbadk
        generalize hx : l[k] = x at *
        generalize hfk : addrFault x.loc x.dom = fk at *
        generalize hik : hasA (l.take k) x = ik at *
        have hbadk := Lib.hid hbadk
        have hstep := Lib.hid hstep
        have hKk := Lib.hid hKk
        have hIk := Lib.hid hIk
        have i0 : (0 : Int) ≤ (k : Int) := by omega
        have i1 : (k : Int) < (l.length : Int) := by omega
        have i2 : (k : Int) ≤ (c : Int) := by omega
        by_cases hfk0 : fk = 0
        · subst hfk0
          cases ik with
          | true =>
            obtain rfl := hbadk.out (by simp)
            go_wp2_with fail
            go_region_held3 (fun w' => w'.cell? ⟨wr.heap.size, 0, none⟩ = some (.string x.loc) ∧ w'.cell? ⟨wr.heap.size, 1, none⟩ = some (.string x.dom) ∧ w'.cell? ⟨w.heap.size, 3, none⟩ = some (.slice (some ad) l.length c))
              (first | exact ⟨s0, s1, s3⟩ | exact ⟨t0, t1, t3⟩ | go_keep)
              (first
                | (go_at_call 51; refine (hKk.out _ (cell_below (B := w.heap.size) (by repeat (first | exact Below.refl _ _ | apply below_alloc | apply pw_below_drewN | apply below_drew1 | (refine Below.setCell ?_ (by first | (simp; done) | (simp; omega) | omega) _) | exact hBw)) hm hg) (Nat.lt_of_lt_of_le hg (Below.size (show Below w.heap.size w _ from (by repeat (first | exact Below.refl _ _ | apply below_alloc | apply pw_below_drewN | apply below_drew1 | (refine Below.setCell ?_ (by first | (simp; done) | (simp; omega) | omega) _) | exact hBw)))))).mono ?_; rintro e w2 ⟨rfl, hb2⟩; obtain ⟨hc2, hf2⟩ := bcell hb2; have hz2 : wr.heap.size < w2.heap.size := (by have := hb2.size; simp at this; omega); have t0 : w2.cell? ⟨wr.heap.size, 0, none⟩ = some (.string x.loc) := (by rw [hc2 _ _ (by first | (simp; done) | (simp; omega))]; simp [*]); have t1 : w2.cell? ⟨wr.heap.size, 1, none⟩ = some (.string x.dom) := (by rw [hc2 _ _ (by first | (simp; done) | (simp; omega))]; simp [*]); have t3 : w2.cell? ⟨w.heap.size, 3, none⟩ = some (.slice (some ad) l.length c) := (by rw [hc2 _ _ (by first | (simp; done) | (simp; omega))]; simp [*]))
                | (go_at_call 52; refine (hIk.out _ (C_pre (Kd.C_below hr (by repeat (first | exact Below.refl _ _ | apply below_alloc | apply pw_below_drewN | apply below_drew1 | (refine Below.setCell ?_ (by first | (simp; done) | (simp; omega) | omega) _) | (refine below_then ?_ (by first | (simp; done) | (simp; omega) | omega) hb2) | exact hBw))) k hk)).mono ?_; rintro e w3 ⟨rfl, hb3⟩; obtain ⟨hc3, hf3⟩ := bcell hb3; have s0 := (hc3 _ 0 hz2).trans t0; have s1 := (hc3 _ 1 hz2).trans t1; have s3 := (hc3 w.heap.size 3 (by omega)).trans t3))
            go_wp2_with fail
            go_ret
            exact ⟨(by first | rfl | (simp; done) | (simp [*]; done) | (rw [if_pos (by omega)]; first | rfl | (simp; done)) | (rw [if_neg (by omega)]; first | rfl | (simp; done)) | (simp; omega)), (by repeat (first | exact Below.refl _ _ | apply below_alloc | apply pw_below_drewN | apply below_drew1 | (refine Below.setCell ?_ (by first | (simp; done) | (simp; omega) | omega) _) | (refine below_then ?_ (by first | (simp; done) | (simp; omega) | omega) hb3) | (refine below_then ?_ (by first | (simp; done) | (simp; omega) | omega) hb2) | exact hBw))⟩
          | false =>
            have hstep := hstep.out (by simp [okA, hx, hfk, hik])
            clear hbadk
            go_wp2_with fail
            go_region_held3 (fun w' => w'.cell? ⟨wr.heap.size, 0, none⟩ = some (.string x.loc) ∧ w'.cell? ⟨wr.heap.size, 1, none⟩ = some (.string x.dom) ∧ w'.cell? ⟨w.heap.size, 3, none⟩ = some (.slice (some ad) l.length c))
              (first | exact ⟨s0, s1, s3⟩ | exact ⟨t0, t1, t3⟩ | go_keep)
              (first
                | (go_at_call 51; refine (hKk.out _ (cell_below (B := w.heap.size) (by repeat (first | exact Below.refl _ _ | apply below_alloc | apply pw_below_drewN | apply below_drew1 | (refine Below.setCell ?_ (by first | (simp; done) | (simp; omega) | omega) _) | exact hBw)) hm hg) (Nat.lt_of_lt_of_le hg (Below.size (show Below w.heap.size w _ from (by repeat (first | exact Below.refl _ _ | apply below_alloc | apply pw_below_drewN | apply below_drew1 | (refine Below.setCell ?_ (by first | (simp; done) | (simp; omega) | omega) _) | exact hBw)))))).mono ?_; rintro e w2 ⟨rfl, hb2⟩; obtain ⟨hc2, hf2⟩ := bcell hb2; have hz2 : wr.heap.size < w2.heap.size := (by have := hb2.size; simp at this; omega); have t0 : w2.cell? ⟨wr.heap.size, 0, none⟩ = some (.string x.loc) := (by rw [hc2 _ _ (by first | (simp; done) | (simp; omega))]; simp [*]); have t1 : w2.cell? ⟨wr.heap.size, 1, none⟩ = some (.string x.dom) := (by rw [hc2 _ _ (by first | (simp; done) | (simp; omega))]; simp [*]); have t3 : w2.cell? ⟨w.heap.size, 3, none⟩ = some (.slice (some ad) l.length c) := (by rw [hc2 _ _ (by first | (simp; done) | (simp; omega))]; simp [*]))
                | (go_at_call 52; refine (hIk.out _ (C_pre (Kd.C_below hr (by repeat (first | exact Below.refl _ _ | apply below_alloc | apply pw_below_drewN | apply below_drew1 | (refine Below.setCell ?_ (by first | (simp; done) | (simp; omega) | omega) _) | (refine below_then ?_ (by first | (simp; done) | (simp; omega) | omega) hb2) | exact hBw))) k hk)).mono ?_; rintro e w3 ⟨rfl, hb3⟩; obtain ⟨hc3, hf3⟩ := bcell hb3; have s0 := (hc3 _ 0 hz2).trans t0; have s1 := (hc3 _ 1 hz2).trans t1; have s3 := (hc3 w.heap.size 3 (by omega)).trans t3))
            go_wp2_with fail
            go_roundw
            case rel => exact ⟨k + 1, by omega, by go_num, hstep, (by repeat (first | exact Below.refl _ _ | apply below_alloc | apply pw_below_drewN | apply below_drew1 | (refine Below.setCell ?_ (by first | (simp; done) | (simp; omega) | omega) _) | (refine Below.trans ?_ (Below.mono hb3 (by first | (simp; done) | (simp; omega) | omega))) | (refine Below.trans ?_ (Below.mono hb2 (by first | (simp; done) | (simp; omega) | omega))) | exact (Below.alloc hB (by omega) _)))⟩
            case measure => simp [intOf]; omega
        · obtain rfl := hbadk.out (by simp [hfk0])
          go_wp2_with fail
          refine wp_region_held_drew (S := fun w' => w'.cell? ⟨wr.heap.size, 0, none⟩ = some (.string x.loc) ∧ w'.cell? ⟨wr.heap.size, 1, none⟩ = some (.string x.dom) ∧ w'.cell? ⟨w.heap.size, 3, none⟩ = some (.slice (some ad) l.length c)) (by kernel_rfl) ?_ (fun hHeld => ?_)
          · go_keep
          refine wpAnyH_take (i := 0) (oi := { dst := some 60, op := _, type := _, pos := _, after := _, guard := _ }) (v := .agg #[.string x.loc, .string x.dom]) rfl (by kernel_rfl) (by kernel_rfl) (by kernel_rfl) (fun _ _ _ h => h) (Or.inl ⟨by rfl, by (intro w hSw; (try dsimp only at hSw); first | (go_simp; done) | (go_simp; with_reducible rfl) | (go_simp; simp [*]; done))⟩) (by assumption) ?_; try simp only [Act.put, List.setIfInBounds_toArray, List.set_cons_zero, List.set_cons_succ]
          refine wpAnyH_ready (rs := [1]) (by kernel_rfl) (by simp) ?_
          refine AllReadyH.cons (o := { dst := some 61, op := _, type := _, pos := _, after := _, guard := _ }) rfl (fun K hK => ?_) AllReadyH.nil
          go_simp
          go_at_call 51
          refine (hKk.out _ (cell_below (B := w.heap.size) (by repeat (first | exact Below.refl _ _ | apply below_alloc | apply pw_below_drewN | apply below_drew1 | (refine Below.setCell ?_ (by first | (simp; done) | (simp; omega) | omega) _) | exact hBw)) hm hg) (Nat.lt_of_lt_of_le hg (Below.size (show Below w.heap.size w _ from (by repeat (first | exact Below.refl _ _ | apply below_alloc | apply pw_below_drewN | apply below_drew1 | (refine Below.setCell ?_ (by first | (simp; done) | (simp; omega) | omega) _) | exact hBw)))))).mono ?_
          rintro e w2 ⟨rfl, hb2⟩
          obtain ⟨hc2, hf2⟩ := bcell hb2
          go_wp2_with fail
          refine hK.out _ _ ?_ (fun hHeld => ?_)
          · refine ⟨?_, ?_, ?_⟩ <;> (rw [hc2 _ _ (by first | (simp; done) | (simp; omega))]; simp [*])
          clear hK K
          have hfkb : (fk != 0) = true := by simp [hfk0]
          refine wpAnyH_take (i := 2) (oi := { dst := some 62, op := _, type := _, pos := _, after := _, guard := _ }) (v := .bool true) rfl (by kernel_rfl) (by kernel_rfl) (by kernel_rfl) (fun _ _ _ h => h) (Or.inl ⟨by rfl, by (intro w hSw; (try dsimp only at hSw); first | (go_simp; done) | (go_simp; with_reducible rfl) | (go_simp; simp [*]; done))⟩) (by assumption) ?_; try simp only [Act.put, List.setIfInBounds_toArray, List.set_cons_zero, List.set_cons_succ]
          refine wpAnyH_take (i := 3) (oi := { dst := some 63, op := _, type := _, pos := _, after := _, guard := _ }) (v := .bool true) rfl (by kernel_rfl) (by kernel_rfl) (by kernel_rfl) (fun _ _ _ h => h) (Or.inl ⟨by rfl, by (intro w hSw; (try dsimp only at hSw); first | (go_simp; done) | (go_simp; with_reducible rfl) | (go_simp; simp [*]; done))⟩) (by assumption) ?_; try simp only [Act.put, List.setIfInBounds_toArray, List.set_cons_zero, List.set_cons_succ]
          refine wpAnyH_take (i := 4) (oi := { dst := some 64, op := _, type := _, pos := _, after := _, guard := _ }) (v := undef) rfl (by kernel_rfl) (by kernel_rfl) (by kernel_rfl) (fun _ _ _ h => h) (Or.inr ⟨by rfl, rfl⟩) (by assumption) ?_; try simp only [Act.put, List.setIfInBounds_toArray, List.set_cons_zero, List.set_cons_succ]
          refine wpAnyH_take (i := 5) (oi := { dst := some 65, op := _, type := _, pos := _, after := _, guard := _ }) (v := undef) rfl (by kernel_rfl) (by kernel_rfl) (by kernel_rfl) (fun _ _ _ h => h) (Or.inr ⟨by rfl, rfl⟩) (by assumption) ?_; try simp only [Act.put, List.setIfInBounds_toArray, List.set_cons_zero, List.set_cons_succ]
          refine wpAnyH_take (i := 6) (oi := { dst := some 66, op := _, type := _, pos := _, after := _, guard := _ }) (v := undef) rfl (by kernel_rfl) (by kernel_rfl) (by kernel_rfl) (fun _ _ _ h => h) (Or.inr ⟨by rfl, rfl⟩) (by assumption) ?_; try simp only [Act.put, List.setIfInBounds_toArray, List.set_cons_zero, List.set_cons_succ]
          refine wpAnyH_take (i := 7) (oi := { dst := some 67, op := _, type := _, pos := _, after := _, guard := _ }) (v := undef) rfl (by kernel_rfl) (by kernel_rfl) (by kernel_rfl) (fun _ _ _ h => h) (Or.inr ⟨by rfl, rfl⟩) (by assumption) ?_; try simp only [Act.put, List.setIfInBounds_toArray, List.set_cons_zero, List.set_cons_succ]
          refine wpAnyH_take (i := 8) (oi := { dst := some 68, op := _, type := _, pos := _, after := _, guard := _ }) (v := undef) rfl (by kernel_rfl) (by kernel_rfl) (by kernel_rfl) (fun _ _ _ h => h) (Or.inr ⟨by rfl, rfl⟩) (by assumption) ?_; try simp only [Act.put, List.setIfInBounds_toArray, List.set_cons_zero, List.set_cons_succ]
          refine wpAnyH_take (i := 9) (oi := { dst := some 69, op := _, type := _, pos := _, after := _, guard := _ }) (v := undef) rfl (by kernel_rfl) (by kernel_rfl) (by kernel_rfl) (fun _ _ _ h => h) (Or.inr ⟨by rfl, rfl⟩) (by assumption) ?_; try simp only [Act.put, List.setIfInBounds_toArray, List.set_cons_zero, List.set_cons_succ]
          refine wpAnyH_take (i := 10) (oi := { dst := some 70, op := _, type := _, pos := _, after := _, guard := _ }) (v := .bool true) rfl (by kernel_rfl) (by kernel_rfl) (by kernel_rfl) (fun _ _ _ h => h) (Or.inl ⟨by rfl, by (intro w hSw; (try dsimp only at hSw); first | (go_simp; done) | (go_simp; with_reducible rfl) | (go_simp; simp [*]; done))⟩) (by assumption) ?_; try simp only [Act.put, List.setIfInBounds_toArray, List.set_cons_zero, List.set_cons_succ]
          refine wpAnyH_done (by kernel_rfl) ?_ _
          go_wp2_with fail
          go_ret
          exact ⟨(by first | rfl | (simp; done) | (simp [*]; done) | (rw [if_pos (by omega)]; first | rfl | (simp; done)) | (rw [if_neg (by omega)]; first | rfl | (simp; done)) | (simp; omega)), (by repeat (first | exact Below.refl _ _ | apply below_alloc | apply pw_below_drewN | apply below_drew1 | (refine Below.setCell ?_ (by first | (simp; done) | (simp; omega) | omega) _) | (refine below_then ?_ (by first | (simp; done) | (simp; omega) | omega) hb2) | exact hBw))⟩
      · obtain rfl : k = l.length := by omega
        by_cases hl0 : l.length = 0
        · obtain rfl := HR.out.2.2.1 hl0
          go_wp2_with fail
          go_ret
          exact ⟨(by first | rfl | (simp; done) | (simp [*]; done) | (rw [if_pos (by omega)]; first | rfl | (simp; done)) | (rw [if_neg (by omega)]; first | rfl | (simp; done)) | (simp; omega)), (by repeat (first | exact Below.refl _ _ | apply below_alloc | apply pw_below_drewN | apply below_drew1 | (refine Below.setCell ?_ (by first | (simp; done) | (simp; omega) | omega) _) | exact hBw))⟩
        · have i3 : ¬ (l.length : Int) = 0 := by omega
          obtain rfl := HR.out.2.1 (fun k hk => hne.out k hk hk) (by omega) (.inl (by trivial))
          go_wp2_with fail
          go_region
          all_goals
            go_wp2_with fail
            go_ret
            exact ⟨(by first | rfl | (simp; done) | (simp [*]; done) | (rw [if_pos (by omega)]; first | rfl | (simp; done)) | (rw [if_neg (by omega)]; first | rfl | (simp; done)) | (simp; omega)), (by apply below_drew1; exact (by (iterate 2 (refine Below.setCell ?_ (by first | (simp; done) | (simp; omega) | omega) _)); exact (by repeat (first | exact Below.refl _ _ | apply below_alloc | apply pw_below_drewN | apply below_drew1 | (refine Below.setCell ?_ (by first | (simp; done) | (simp; omega) | omega) _) | exact hBw))))⟩
  · obtain rfl := hn (fun hh => hf (by
      have h2 := hh.2.2.2.2.1
      rw [if_pos (by omega)] at h2
      exact h2))
    clear hq hn
    go_enter Tryd.func15, Tryd.ntmps15
    go_wp2_with fail
    refine (HC.out _ (cell_below (B := w.heap.size) (by repeat (first | exact Below.refl _ _ | apply below_alloc | apply pw_below_drewN | apply below_drew1 | (refine Below.setCell ?_ (by first | (simp; done) | (simp; omega) | omega) _) )) hm hg) (Nat.lt_of_lt_of_le hg (Below.size (show Below w.heap.size w _ from (by repeat (first | exact Below.refl _ _ | apply below_alloc | apply pw_below_drewN | apply below_drew1 | (refine Below.setCell ?_ (by first | (simp; done) | (simp; omega) | omega) _) )))))).mono ?_
    rintro e w1 ⟨rfl, hb1⟩
    go_wp2_with fail
    go_ret
    exact ⟨(by first | rfl | (simp; done) | (simp [*]; done) | (rw [if_pos (by omega)]; first | rfl | (simp; done)) | (rw [if_neg (by omega)]; first | rfl | (simp; done)) | (simp; omega)), (by repeat (first | exact Below.refl _ _ | apply below_alloc | apply pw_below_drewN | apply below_drew1 | (refine Below.setCell ?_ (by first | (simp; done) | (simp; omega) | omega) _) | (refine below_then ?_ (by first | (simp; done) | (simp; omega) | omega) hb1)))⟩
end Go.Proofs.YtpeenmbonhijmaaDoor.H
