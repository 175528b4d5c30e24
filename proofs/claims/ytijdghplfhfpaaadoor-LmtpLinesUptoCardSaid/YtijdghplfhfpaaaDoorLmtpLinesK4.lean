/- The claim LmtpLinesUptoCardSaid, part 4 of 5. -/
import Derived.Test.YtijdghplfhfpaaaDoorLmtpLinesK3
import Derived.Deep.RegionHeld3
import Derived.Test.YtijdghplfhfpaaaDoorLmtpLinesK1
/- Sessions: lmtp.Check of a session with people to whom it goes. -/
namespace Go.Proofs.YtijdghplfhfpaaaDoor.H
open Go.RowKit Go.Proofs.YtijdghplfhfpaaaDoorW.PrintWords Go.Proofs.YtijdghplfhfpaaaDoorW.PrintLast Go.Proofs.YtijdghplfhfpaaaDoor.U
set_option linter.unusedVariables false
set_option linter.unusedSimpArgs false
attribute [local go_sem high] eqAAddress eqbAAddress_self
def okA (l : List AAddress) (k : Nat) (hk : k < l.length) : Prop := addrFault l[k].loc l[k].dom = 0 ∧ hasA (l.take k) l[k] = false
set_option maxHeartbeats 1000000 in
set_option maxRecDepth 100000 in
theorem lmtpCheck_3 (fr : AAddress) (A : Option Addr) (c : Nat) (l : List AAddress) (tx : ByteArray) (lg : Bool) (w : World) (hr : Kd.C kAAddress w A l.length l) (hlc : l.length ≤ c) (hl : l.length ≤ 5) (ht : tx.size ≤ 2000) (m : Int) (ha : fr.loc.size ≤ 1048576) (hb : fr.dom.size ≤ 1048576) (hs : ∀ x ∈ l, x.loc.size ≤ 1048576 ∧ x.dom.size ≤ 1048576) (hm : w.cell? ⟨6, 0, none⟩ = some (.int .i64 m)) (hg : 6 < w.heap.size) :
    Calls Tryd.prog 63 #[.agg #[.int .i64 3, .string fr.loc, .string fr.dom, .slice A l.length c, .string tx, .bool lg]] w fun e w' => e = .returned (.int .i64 (sessFault 3 fr l tx lg)) ∧ Below w.heap.size w w' := by
  have hi : ¬ (5 : Int) < l.length := by omega
  have hi2 : ¬ (2000 : Int) < tx.size := by omega
  have HC := fun w hm hg => check_calls fr.loc fr.dom m w ha hb hm hg
  have HK := fun k (hk : k < l.length) w hm hg => check_calls l[k].loc l[k].dom m w (hs _ (List.getElem_mem hk)).1 (hs _ (List.getElem_mem hk)).2 hm hg
  have HI : ∀ k (hk : k < l.length) (w : World), Kd.C kAAddress w A k (l.take k) → Calls Tryd.prog 98 #[.slice A k c, .agg #[.string l[k].loc, .string l[k].dom]] w fun e w' => e = .returned (.bool (hasA (l.take k) l[k])) ∧ Below w.heap.size w w' := fun k hk w hr => by
    have hlk : (l.take k).length = k := by rw [List.length_take]; omega
    have h := addrContains_calls A c (l.take k) l[k] w (by rw [hlk]; exact hr)
    rw [hlk] at h
    exact h
  have hq := fun h => sess_yes (st := 3) (fr := fr) (l := l) (tx := tx) (lg := lg) h
  have hn := fun h => sess_no (st := 3) (fr := fr) (l := l) (tx := tx) (lg := lg) h
  generalize sessFault 3 fr l tx lg = r at *
  unfold sessMay at hq hn
  generalize addrFault fr.loc fr.dom = f at *
  have HC := Lib.hid HC
  have HK := Lib.hid HK
  have HI := Lib.hid HI
  by_cases hf : f = 0
  · subst hf
    have hbad : ∀ k (hk : k < l.length), ¬ okA l k hk → r = 11 := fun k hk h => hn fun hh => h (by
      have h2 := hh.2.2.2.2.2.1
      rw [if_pos (by omega)] at h2
      exact h2.2 k hk)
    have hend : (∀ k (hk : k < l.length), okA l k hk) → 0 < l.length → ((3 : Int) = 4 ∨ (tx.size = 0 ∧ lg = false)) → r = 0 := fun h h0 h1 => hq ⟨by omega, by omega, hl, ht, by rw [if_pos (by omega)], by rw [if_pos (by omega)]; exact ⟨h0, h⟩, h1⟩
    have hzero : l.length = 0 → r = 11 := fun h => hn fun hh => by
      have h2 := hh.2.2.2.2.2.1
      rw [if_pos (by omega)] at h2
      omega
    have hthree : (3 : Int) = 3 → ¬ (tx.size = 0 ∧ lg = false) → r = 11 := fun h h1 => hn fun hh => h1 (hh.2.2.2.2.2.2.resolve_left (by omega))
    have HR := Lib.hid (And.intro hbad (And.intro hend (And.intro hzero hthree)))
    clear hbad hend hzero hthree hq hn
    go_enter Tryd.func63, Tryd.ntmps63
    go_wp2_with fail
    refine (HC.out _ (cell_below (B := w.heap.size) (by repeat (first | exact Below.refl _ _ | apply below_alloc | apply pw_below_drewN | apply below_drew1 | (refine Below.setCell ?_ (by first | (simp; done) | (simp; omega) | omega) _) )) hm hg) (Nat.lt_of_lt_of_le hg (Below.size (show Below w.heap.size w _ from (by repeat (first | exact Below.refl _ _ | apply below_alloc | apply pw_below_drewN | apply below_drew1 | (refine Below.setCell ?_ (by first | (simp; done) | (simp; omega) | omega) _) )))))).mono ?_
    rintro e w1 ⟨rfl, hb1⟩
    obtain ⟨hc_w1, hf_w1⟩ := bcell hb1
    have s_ := hb1.size
    (try simp at s_)
    (first | (have : w.heap.size < w1.heap.size := by omega) | skip)
    have : w.heap.size ≤ w1.heap.size := by omega
    (first | (have : w.heap.size + 1 < w1.heap.size := by omega) | skip)
    have : w.heap.size + 1 ≤ w1.heap.size := by omega
    clear s_
    have : w1.cell? ⟨w.heap.size, 0, none⟩ = some (.int .i64 3) := (by rw [hc_w1 _ _ (by first | (simp; done) | (simp; omega))]; first | (simp; done) | (simp [*]; done) | assumption | (simp [go_sem, *]; done)); have : w1.frozen? ⟨w.heap.size, 0, none⟩ = false := (by rw [hf_w1 _ _ (by first | (simp; done) | (simp; omega))]; first | (simp; done) | (simp [*]; done) | assumption | (simp [go_sem, *]; done)); have : w1.cell? ⟨w.heap.size, 1, none⟩ = some (.string fr.loc) := (by rw [hc_w1 _ _ (by first | (simp; done) | (simp; omega))]; first | (simp; done) | (simp [*]; done) | assumption | (simp [go_sem, *]; done)); have : w1.frozen? ⟨w.heap.size, 1, none⟩ = false := (by rw [hf_w1 _ _ (by first | (simp; done) | (simp; omega))]; first | (simp; done) | (simp [*]; done) | assumption | (simp [go_sem, *]; done)); have : w1.cell? ⟨w.heap.size, 2, none⟩ = some (.string fr.dom) := (by rw [hc_w1 _ _ (by first | (simp; done) | (simp; omega))]; first | (simp; done) | (simp [*]; done) | assumption | (simp [go_sem, *]; done)); have : w1.frozen? ⟨w.heap.size, 2, none⟩ = false := (by rw [hf_w1 _ _ (by first | (simp; done) | (simp; omega))]; first | (simp; done) | (simp [*]; done) | assumption | (simp [go_sem, *]; done)); have : w1.cell? ⟨w.heap.size, 3, none⟩ = some (.slice A l.length c) := (by rw [hc_w1 _ _ (by first | (simp; done) | (simp; omega))]; first | (simp; done) | (simp [*]; done) | assumption | (simp [go_sem, *]; done)); have : w1.frozen? ⟨w.heap.size, 3, none⟩ = false := (by rw [hf_w1 _ _ (by first | (simp; done) | (simp; omega))]; first | (simp; done) | (simp [*]; done) | assumption | (simp [go_sem, *]; done)); have : w1.cell? ⟨w.heap.size, 4, none⟩ = some (.string tx) := (by rw [hc_w1 _ _ (by first | (simp; done) | (simp; omega))]; first | (simp; done) | (simp [*]; done) | assumption | (simp [go_sem, *]; done)); have : w1.frozen? ⟨w.heap.size, 4, none⟩ = false := (by rw [hf_w1 _ _ (by first | (simp; done) | (simp; omega))]; first | (simp; done) | (simp [*]; done) | assumption | (simp [go_sem, *]; done)); have : w1.cell? ⟨w.heap.size, 5, none⟩ = some (.bool lg) := (by rw [hc_w1 _ _ (by first | (simp; done) | (simp; omega))]; first | (simp; done) | (simp [*]; done) | assumption | (simp [go_sem, *]; done)); have : w1.frozen? ⟨w.heap.size, 5, none⟩ = false := (by rw [hf_w1 _ _ (by first | (simp; done) | (simp; omega))]; first | (simp; done) | (simp [*]; done) | assumption | (simp [go_sem, *]; done))
    have : w1.cell? ⟨w.heap.size + 1, 0, none⟩ = some (.int .i64 3) := (by rw [hc_w1 _ _ (by first | (simp; done) | (simp; omega))]; first | (simp; done) | (simp [*]; done) | assumption | (simp [go_sem, *]; done)); have : w1.frozen? ⟨w.heap.size + 1, 0, none⟩ = false := (by rw [hf_w1 _ _ (by first | (simp; done) | (simp; omega))]; first | (simp; done) | (simp [*]; done) | assumption | (simp [go_sem, *]; done)); have : w1.cell? ⟨w.heap.size + 1, 1, none⟩ = some (.string ⟨#[]⟩) := (by rw [hc_w1 _ _ (by first | (simp; done) | (simp; omega))]; first | (simp; done) | (simp [*]; done) | assumption | (simp [go_sem, *]; done)); have : w1.frozen? ⟨w.heap.size + 1, 1, none⟩ = false := (by rw [hf_w1 _ _ (by first | (simp; done) | (simp; omega))]; first | (simp; done) | (simp [*]; done) | assumption | (simp [go_sem, *]; done)); have : w1.cell? ⟨w.heap.size + 1, 2, none⟩ = some (.string ⟨#[]⟩) := (by rw [hc_w1 _ _ (by first | (simp; done) | (simp; omega))]; first | (simp; done) | (simp [*]; done) | assumption | (simp [go_sem, *]; done)); have : w1.frozen? ⟨w.heap.size + 1, 2, none⟩ = false := (by rw [hf_w1 _ _ (by first | (simp; done) | (simp; omega))]; first | (simp; done) | (simp [*]; done) | assumption | (simp [go_sem, *]; done)); have : w1.cell? ⟨w.heap.size + 1, 3, none⟩ = some (.slice none 0 0) := (by rw [hc_w1 _ _ (by first | (simp; done) | (simp; omega))]; first | (simp; done) | (simp [*]; done) | assumption | (simp [go_sem, *]; done)); have : w1.frozen? ⟨w.heap.size + 1, 3, none⟩ = false := (by rw [hf_w1 _ _ (by first | (simp; done) | (simp; omega))]; first | (simp; done) | (simp [*]; done) | assumption | (simp [go_sem, *]; done)); have : w1.cell? ⟨w.heap.size + 1, 4, none⟩ = some (.string ⟨#[]⟩) := (by rw [hc_w1 _ _ (by first | (simp; done) | (simp; omega))]; first | (simp; done) | (simp [*]; done) | assumption | (simp [go_sem, *]; done)); have : w1.frozen? ⟨w.heap.size + 1, 4, none⟩ = false := (by rw [hf_w1 _ _ (by first | (simp; done) | (simp; omega))]; first | (simp; done) | (simp [*]; done) | assumption | (simp [go_sem, *]; done)); have : w1.cell? ⟨w.heap.size + 1, 5, none⟩ = some (.bool false) := (by rw [hc_w1 _ _ (by first | (simp; done) | (simp; omega))]; first | (simp; done) | (simp [*]; done) | assumption | (simp [go_sem, *]; done)); have : w1.frozen? ⟨w.heap.size + 1, 5, none⟩ = false := (by rw [hf_w1 _ _ (by first | (simp; done) | (simp; omega))]; first | (simp; done) | (simp [*]; done) | assumption | (simp [go_sem, *]; done))
    clear hc_w1 hf_w1
    go_wp2_with fail
    have hB0 : Below w.heap.size w ((w1.setCell ⟨w.heap.size + 1, 1, none⟩ (.string fr.loc)).setCell ⟨w.heap.size + 1, 2, none⟩ (.string fr.dom)) := (by (iterate 2 (refine Below.setCell ?_ (by first | (simp; done) | (simp; omega) | omega) _)); exact (by repeat (first | exact Below.refl _ _ | apply below_alloc | apply pw_below_drewN | apply below_drew1 | (refine Below.setCell ?_ (by first | (simp; done) | (simp; omega) | omega) _) | (refine below_then ?_ (by first | (simp; done) | (simp; omega) | omega) hb1))))
    go_loopw [55] (fun i wr => ∃ k : Nat, k ≤ l.length ∧ i = .int .i64 k ∧ (∀ j (hj : j < l.length), j < k → okA l j hj) ∧ Below (w.heap.size + 2) ((w1.setCell ⟨w.heap.size + 1, 1, none⟩ (.string fr.loc)).setCell ⟨w.heap.size + 1, 2, none⟩ (.string fr.dom)) wr) (fun i _ => l.length - (intOf i).toNat)
    case atStart => exact ⟨0, Nat.zero_le _, rfl, fun j _ hj => absurd hj (Nat.not_lt_zero _), Below.refl _ _⟩
    case round =>
      obtain ⟨k, hk, rfl, hne, hB⟩ := hrel
      have hne := Lib.hid hne
      have hBw : Below w.heap.size w wr := Below.trans hB0 (Below.mono hB (by omega))
      obtain ⟨hcb, hfb⟩ := bcellB hB
      have hz := hB.size
      simp at hz
      have hzw : w.heap.size + 1 < wr.heap.size := by omega
      have : wr.cell? ⟨w.heap.size, 0, none⟩ = some (.int .i64 3) := (by rw [hcb _ _ (by first | (simp; done) | (simp; omega))]; first | (simp; done) | (simp [*]; done) | assumption | (simp [go_sem, *]; done)); have : wr.frozen? ⟨w.heap.size, 0, none⟩ = false := (by rw [hfb _ _ (by first | (simp; done) | (simp; omega))]; first | (simp; done) | (simp [*]; done) | assumption | (simp [go_sem, *]; done)); have : wr.cell? ⟨w.heap.size, 1, none⟩ = some (.string fr.loc) := (by rw [hcb _ _ (by first | (simp; done) | (simp; omega))]; first | (simp; done) | (simp [*]; done) | assumption | (simp [go_sem, *]; done)); have : wr.frozen? ⟨w.heap.size, 1, none⟩ = false := (by rw [hfb _ _ (by first | (simp; done) | (simp; omega))]; first | (simp; done) | (simp [*]; done) | assumption | (simp [go_sem, *]; done)); have : wr.cell? ⟨w.heap.size, 2, none⟩ = some (.string fr.dom) := (by rw [hcb _ _ (by first | (simp; done) | (simp; omega))]; first | (simp; done) | (simp [*]; done) | assumption | (simp [go_sem, *]; done)); have : wr.frozen? ⟨w.heap.size, 2, none⟩ = false := (by rw [hfb _ _ (by first | (simp; done) | (simp; omega))]; first | (simp; done) | (simp [*]; done) | assumption | (simp [go_sem, *]; done)); have : wr.cell? ⟨w.heap.size, 3, none⟩ = some (.slice A l.length c) := (by rw [hcb _ _ (by first | (simp; done) | (simp; omega))]; first | (simp; done) | (simp [*]; done) | assumption | (simp [go_sem, *]; done)); have : wr.frozen? ⟨w.heap.size, 3, none⟩ = false := (by rw [hfb _ _ (by first | (simp; done) | (simp; omega))]; first | (simp; done) | (simp [*]; done) | assumption | (simp [go_sem, *]; done)); have : wr.cell? ⟨w.heap.size, 4, none⟩ = some (.string tx) := (by rw [hcb _ _ (by first | (simp; done) | (simp; omega))]; first | (simp; done) | (simp [*]; done) | assumption | (simp [go_sem, *]; done)); have : wr.frozen? ⟨w.heap.size, 4, none⟩ = false := (by rw [hfb _ _ (by first | (simp; done) | (simp; omega))]; first | (simp; done) | (simp [*]; done) | assumption | (simp [go_sem, *]; done)); have : wr.cell? ⟨w.heap.size, 5, none⟩ = some (.bool lg) := (by rw [hcb _ _ (by first | (simp; done) | (simp; omega))]; first | (simp; done) | (simp [*]; done) | assumption | (simp [go_sem, *]; done)); have : wr.frozen? ⟨w.heap.size, 5, none⟩ = false := (by rw [hfb _ _ (by first | (simp; done) | (simp; omega))]; first | (simp; done) | (simp [*]; done) | assumption | (simp [go_sem, *]; done))
      have : wr.cell? ⟨w.heap.size + 1, 0, none⟩ = some (.int .i64 3) := (by rw [hcb _ _ (by first | (simp; done) | (simp; omega))]; first | (simp; done) | (simp [*]; done) | assumption | (simp [go_sem, *]; done)); have : wr.frozen? ⟨w.heap.size + 1, 0, none⟩ = false := (by rw [hfb _ _ (by first | (simp; done) | (simp; omega))]; first | (simp; done) | (simp [*]; done) | assumption | (simp [go_sem, *]; done)); have : wr.cell? ⟨w.heap.size + 1, 1, none⟩ = some (.string fr.loc) := (by rw [hcb _ _ (by first | (simp; done) | (simp; omega))]; first | (simp; done) | (simp [*]; done) | assumption | (simp [go_sem, *]; done)); have : wr.frozen? ⟨w.heap.size + 1, 1, none⟩ = false := (by rw [hfb _ _ (by first | (simp; done) | (simp; omega))]; first | (simp; done) | (simp [*]; done) | assumption | (simp [go_sem, *]; done)); have : wr.cell? ⟨w.heap.size + 1, 2, none⟩ = some (.string fr.dom) := (by rw [hcb _ _ (by first | (simp; done) | (simp; omega))]; first | (simp; done) | (simp [*]; done) | assumption | (simp [go_sem, *]; done)); have : wr.frozen? ⟨w.heap.size + 1, 2, none⟩ = false := (by rw [hfb _ _ (by first | (simp; done) | (simp; omega))]; first | (simp; done) | (simp [*]; done) | assumption | (simp [go_sem, *]; done)); have : wr.cell? ⟨w.heap.size + 1, 3, none⟩ = some (.slice none 0 0) := (by rw [hcb _ _ (by first | (simp; done) | (simp; omega))]; first | (simp; done) | (simp [*]; done) | assumption | (simp [go_sem, *]; done)); have : wr.frozen? ⟨w.heap.size + 1, 3, none⟩ = false := (by rw [hfb _ _ (by first | (simp; done) | (simp; omega))]; first | (simp; done) | (simp [*]; done) | assumption | (simp [go_sem, *]; done)); have : wr.cell? ⟨w.heap.size + 1, 4, none⟩ = some (.string ⟨#[]⟩) := (by rw [hcb _ _ (by first | (simp; done) | (simp; omega))]; first | (simp; done) | (simp [*]; done) | assumption | (simp [go_sem, *]; done)); have : wr.frozen? ⟨w.heap.size + 1, 4, none⟩ = false := (by rw [hfb _ _ (by first | (simp; done) | (simp; omega))]; first | (simp; done) | (simp [*]; done) | assumption | (simp [go_sem, *]; done)); have : wr.cell? ⟨w.heap.size + 1, 5, none⟩ = some (.bool false) := (by rw [hcb _ _ (by first | (simp; done) | (simp; omega))]; first | (simp; done) | (simp [*]; done) | assumption | (simp [go_sem, *]; done)); have : wr.frozen? ⟨w.heap.size + 1, 5, none⟩ = false := (by rw [hfb _ _ (by first | (simp; done) | (simp; omega))]; first | (simp; done) | (simp [*]; done) | assumption | (simp [go_sem, *]; done))
      clear hcb hfb
      by_cases hlt : k < l.length
      · obtain ⟨ad, e1, hx0, hxj⟩ := flat_at (Kd.C_below hr hBw) k hlt
        subst e1
        have q0 := hx0 _ rfl; have q1 := hxj 1 _ (by decide) rfl
        clear hx0 hxj
        have hKk := fun w hm hg => HK.out k hlt w hm hg
        have hIk := fun w hr => HI.out k hlt w hr
        have hbadk := HR.out.1 k hlt
        have hstep : okA l k hlt → ∀ j (hj : j < l.length), j < k + 1 → okA l j hj := fun h j hj hjk => by
          rcases Nat.lt_or_ge j k with h' | h'
          · exact hne.out j hj h'
          · obtain rfl : j = k := by omega
            exact h
        unfold okA at hbadk
        generalize hx : l[k] = x at *
        generalize hfk : addrFault x.loc x.dom = fk at *
        generalize hik : hasA (l.take k) x = ik at *
        have hbadk := Lib.hid hbadk
        have hstep := Lib.hid hstep
        have hKk := Lib.hid hKk
        have hIk := Lib.hid hIk
        have i0 : (0 : Int) ≤ (k : Int) := by omega
        have i1 : (k : Int) < (l.length : Int) := by omega
        have i2 : (k : Int) ≤ (c : Int) := by omega
        by_cases hfk0 : fk = 0
        · subst hfk0
          cases ik with
          | true =>
            obtain rfl := hbadk.out (by simp)
            go_wp2_with fail
            go_region_held3 (fun w' => w'.cell? ⟨wr.heap.size, 0, none⟩ = some (.string x.loc) ∧ w'.cell? ⟨wr.heap.size, 1, none⟩ = some (.string x.dom) ∧ w'.cell? ⟨w.heap.size, 3, none⟩ = some (.slice (some ad) l.length c))
              (first | exact ⟨s0, s1, s3⟩ | exact ⟨t0, t1, t3⟩ | go_keep)
              (first
                | (go_at_call 97; refine (hKk.out _ (cell_below (B := w.heap.size) (by repeat (first | exact Below.refl _ _ | apply below_alloc | apply pw_below_drewN | apply below_drew1 | (refine Below.setCell ?_ (by first | (simp; done) | (simp; omega) | omega) _) | exact hBw)) hm hg) (Nat.lt_of_lt_of_le hg (Below.size (show Below w.heap.size w _ from (by repeat (first | exact Below.refl _ _ | apply below_alloc | apply pw_below_drewN | apply below_drew1 | (refine Below.setCell ?_ (by first | (simp; done) | (simp; omega) | omega) _) | exact hBw)))))).mono ?_; rintro e w2 ⟨rfl, hb2⟩; obtain ⟨hc2, hf2⟩ := bcell hb2; have hz2 : wr.heap.size < w2.heap.size := (by have := hb2.size; simp at this; omega); have t0 : w2.cell? ⟨wr.heap.size, 0, none⟩ = some (.string x.loc) := (by rw [hc2 _ _ (by first | (simp; done) | (simp; omega))]; simp [*]); have t1 : w2.cell? ⟨wr.heap.size, 1, none⟩ = some (.string x.dom) := (by rw [hc2 _ _ (by first | (simp; done) | (simp; omega))]; simp [*]); have t3 : w2.cell? ⟨w.heap.size, 3, none⟩ = some (.slice (some ad) l.length c) := (by rw [hc2 _ _ (by first | (simp; done) | (simp; omega))]; simp [*]))
                | (go_at_call 98; refine (hIk.out _ (C_pre (Kd.C_below hr (by repeat (first | exact Below.refl _ _ | apply below_alloc | apply pw_below_drewN | apply below_drew1 | (refine Below.setCell ?_ (by first | (simp; done) | (simp; omega) | omega) _) | (refine below_then ?_ (by first | (simp; done) | (simp; omega) | omega) hb2) | exact hBw))) k hk)).mono ?_; rintro e w3 ⟨rfl, hb3⟩; obtain ⟨hc3, hf3⟩ := bcell hb3; have s0 := (hc3 _ 0 hz2).trans t0; have s1 := (hc3 _ 1 hz2).trans t1; have s3 := (hc3 w.heap.size 3 (by omega)).trans t3))
            go_wp2_with fail
            go_ret
            exact ⟨(by first | rfl | (simp; done) | (simp [*]; done) | (rw [if_pos (by omega)]; first | rfl | (simp; done)) | (rw [if_neg (by omega)]; first | rfl | (simp; done)) | (simp; omega)), (by repeat (first | exact Below.refl _ _ | apply below_alloc | apply pw_below_drewN | apply below_drew1 | (refine Below.setCell ?_ (by first | (simp; done) | (simp; omega) | omega) _) | (refine below_then ?_ (by first | (simp; done) | (simp; omega) | omega) hb3) | (refine below_then ?_ (by first | (simp; done) | (simp; omega) | omega) hb2) | exact hBw))⟩
          | false =>
            have hstep := hstep.out (by simp [okA, hx, hfk, hik])
            clear hbadk
            go_wp2_with fail
            go_region_held3 (fun w' => w'.cell? ⟨wr.heap.size, 0, none⟩ = some (.string x.loc) ∧ w'.cell? ⟨wr.heap.size, 1, none⟩ = some (.string x.dom) ∧ w'.cell? ⟨w.heap.size, 3, none⟩ = some (.slice (some ad) l.length c))
              (first | exact ⟨s0, s1, s3⟩ | exact ⟨t0, t1, t3⟩ | go_keep)
              (first
                | (go_at_call 97; refine (hKk.out _ (cell_below (B := w.heap.size) (by repeat (first | exact Below.refl _ _ | apply below_alloc | apply pw_below_drewN | apply below_drew1 | (refine Below.setCell ?_ (by first | (simp; done) | (simp; omega) | omega) _) | exact hBw)) hm hg) (Nat.lt_of_lt_of_le hg (Below.size (show Below w.heap.size w _ from (by repeat (first | exact Below.refl _ _ | apply below_alloc | apply pw_below_drewN | apply below_drew1 | (refine Below.setCell ?_ (by first | (simp; done) | (simp; omega) | omega) _) | exact hBw)))))).mono ?_; rintro e w2 ⟨rfl, hb2⟩; obtain ⟨hc2, hf2⟩ := bcell hb2; have hz2 : wr.heap.size < w2.heap.size := (by have := hb2.size; simp at this; omega); have t0 : w2.cell? ⟨wr.heap.size, 0, none⟩ = some (.string x.loc) := (by rw [hc2 _ _ (by first | (simp; done) | (simp; omega))]; simp [*]); have t1 : w2.cell? ⟨wr.heap.size, 1, none⟩ = some (.string x.dom) := (by rw [hc2 _ _ (by first | (simp; done) | (simp; omega))]; simp [*]); have t3 : w2.cell? ⟨w.heap.size, 3, none⟩ = some (.slice (some ad) l.length c) := (by rw [hc2 _ _ (by first | (simp; done) | (simp; omega))]; simp [*]))
                | (go_at_call 98; refine (hIk.out _ (C_pre (Kd.C_below hr (by repeat (first | exact Below.refl _ _ | apply below_alloc | apply pw_below_drewN | apply below_drew1 | (refine Below.setCell ?_ (by first | (simp; done) | (simp; omega) | omega) _) | (refine below_then ?_ (by first | (simp; done) | (simp; omega) | omega) hb2) | exact hBw))) k hk)).mono ?_; rintro e w3 ⟨rfl, hb3⟩; obtain ⟨hc3, hf3⟩ := bcell hb3; have s0 := (hc3 _ 0 hz2).trans t0; have s1 := (hc3 _ 1 hz2).trans t1; have s3 := (hc3 w.heap.size 3 (by omega)).trans t3))
            go_wp2_with fail
            go_roundw
            case rel => exact ⟨k + 1, by omega, by go_num, hstep, (by repeat (first | exact Below.refl _ _ | apply below_alloc | apply pw_below_drewN | apply below_drew1 | (refine Below.setCell ?_ (by first | (simp; done) | (simp; omega) | omega) _) | (refine Below.trans ?_ (Below.mono hb3 (by first | (simp; done) | (simp; omega) | omega))) | (refine Below.trans ?_ (Below.mono hb2 (by first | (simp; done) | (simp; omega) | omega))) | exact (Below.alloc hB (by omega) _)))⟩
            case measure => simp [intOf]; omega
        · obtain rfl := hbadk.out (by simp [hfk0])
          go_wp2_with fail
          refine wp_region_held_drew (S := fun w' => w'.cell? ⟨wr.heap.size, 0, none⟩ = some (.string x.loc) ∧ w'.cell? ⟨wr.heap.size, 1, none⟩ = some (.string x.dom) ∧ w'.cell? ⟨w.heap.size, 3, none⟩ = some (.slice (some ad) l.length c)) (by kernel_rfl) ?_ (fun hHeld => ?_)
          · go_keep
          refine wpAnyH_take (i := 0) (oi := { dst := some 60, op := _, type := _, pos := _, after := _, guard := _ }) (v := .agg #[.string x.loc, .string x.dom]) rfl (by kernel_rfl) (by kernel_rfl) (by kernel_rfl) (fun _ _ _ h => h) (Or.inl ⟨by rfl, by (intro w hSw; (try dsimp only at hSw); first | (go_simp; done) | (go_simp; with_reducible rfl) | (go_simp; omega) | (go_simp; simp [*]; done))⟩) (by assumption) ?_; try simp only [Act.put, List.setIfInBounds_toArray, List.set_cons_zero, List.set_cons_succ]
          refine wpAnyH_ready (rs := [1]) (by kernel_rfl) (by simp) ?_
          refine AllReadyH.cons (o := { dst := some 61, op := _, type := _, pos := _, after := _, guard := _ }) rfl (fun K hK => ?_) AllReadyH.nil
          go_simp
          go_at_call 97
          refine (hKk.out _ (cell_below (B := w.heap.size) (by repeat (first | exact Below.refl _ _ | apply below_alloc | apply pw_below_drewN | apply below_drew1 | (refine Below.setCell ?_ (by first | (simp; done) | (simp; omega) | omega) _) | exact hBw)) hm hg) (Nat.lt_of_lt_of_le hg (Below.size (show Below w.heap.size w _ from (by repeat (first | exact Below.refl _ _ | apply below_alloc | apply pw_below_drewN | apply below_drew1 | (refine Below.setCell ?_ (by first | (simp; done) | (simp; omega) | omega) _) | exact hBw)))))).mono ?_
          rintro e w2 ⟨rfl, hb2⟩
          obtain ⟨hc2, hf2⟩ := bcell hb2
          go_wp2_with fail
          refine hK.out _ _ ?_ (fun hHeld => ?_)
          · refine ⟨?_, ?_, ?_⟩ <;> (rw [hc2 _ _ (by first | (simp; done) | (simp; omega))]; simp [*])
          clear hK K
          have hfkb : (fk != 0) = true := by simp [hfk0]
          refine wpAnyH_take (i := 2) (oi := { dst := some 62, op := _, type := _, pos := _, after := _, guard := _ }) (v := .bool true) rfl (by kernel_rfl) (by kernel_rfl) (by kernel_rfl) (fun _ _ _ h => h) (Or.inl ⟨by rfl, by (intro w hSw; (try dsimp only at hSw); first | (go_simp; done) | (go_simp; with_reducible rfl) | (go_simp; omega) | (go_simp; simp [*]; done))⟩) (by assumption) ?_; try simp only [Act.put, List.setIfInBounds_toArray, List.set_cons_zero, List.set_cons_succ]
          refine wpAnyH_take (i := 3) (oi := { dst := some 63, op := _, type := _, pos := _, after := _, guard := _ }) (v := .bool true) rfl (by kernel_rfl) (by kernel_rfl) (by kernel_rfl) (fun _ _ _ h => h) (Or.inl ⟨by rfl, by (intro w hSw; (try dsimp only at hSw); first | (go_simp; done) | (go_simp; with_reducible rfl) | (go_simp; omega) | (go_simp; simp [*]; done))⟩) (by assumption) ?_; try simp only [Act.put, List.setIfInBounds_toArray, List.set_cons_zero, List.set_cons_succ]
          refine wpAnyH_take (i := 4) (oi := { dst := some 64, op := _, type := _, pos := _, after := _, guard := _ }) (v := undef) rfl (by kernel_rfl) (by kernel_rfl) (by kernel_rfl) (fun _ _ _ h => h) (Or.inr ⟨by rfl, rfl⟩) (by assumption) ?_; try simp only [Act.put, List.setIfInBounds_toArray, List.set_cons_zero, List.set_cons_succ]
          refine wpAnyH_take (i := 5) (oi := { dst := some 65, op := _, type := _, pos := _, after := _, guard := _ }) (v := undef) rfl (by kernel_rfl) (by kernel_rfl) (by kernel_rfl) (fun _ _ _ h => h) (Or.inr ⟨by rfl, rfl⟩) (by assumption) ?_; try simp only [Act.put, List.setIfInBounds_toArray, List.set_cons_zero, List.set_cons_succ]
          refine wpAnyH_take (i := 6) (oi := { dst := some 66, op := _, type := _, pos := _, after := _, guard := _ }) (v := undef) rfl (by kernel_rfl) (by kernel_rfl) (by kernel_rfl) (fun _ _ _ h => h) (Or.inr ⟨by rfl, rfl⟩) (by assumption) ?_; try simp only [Act.put, List.setIfInBounds_toArray, List.set_cons_zero, List.set_cons_succ]
          refine wpAnyH_take (i := 7) (oi := { dst := some 67, op := _, type := _, pos := _, after := _, guard := _ }) (v := undef) rfl (by kernel_rfl) (by kernel_rfl) (by kernel_rfl) (fun _ _ _ h => h) (Or.inr ⟨by rfl, rfl⟩) (by assumption) ?_; try simp only [Act.put, List.setIfInBounds_toArray, List.set_cons_zero, List.set_cons_succ]
          refine wpAnyH_take (i := 8) (oi := { dst := some 68, op := _, type := _, pos := _, after := _, guard := _ }) (v := undef) rfl (by kernel_rfl) (by kernel_rfl) (by kernel_rfl) (fun _ _ _ h => h) (Or.inr ⟨by rfl, rfl⟩) (by assumption) ?_; try simp only [Act.put, List.setIfInBounds_toArray, List.set_cons_zero, List.set_cons_succ]
          refine wpAnyH_take (i := 9) (oi := { dst := some 69, op := _, type := _, pos := _, after := _, guard := _ }) (v := undef) rfl (by kernel_rfl) (by kernel_rfl) (by kernel_rfl) (fun _ _ _ h => h) (Or.inr ⟨by rfl, rfl⟩) (by assumption) ?_; try simp only [Act.put, List.setIfInBounds_toArray, List.set_cons_zero, List.set_cons_succ]
          refine wpAnyH_take (i := 10) (oi := { dst := some 70, op := _, type := _, pos := _, after := _, guard := _ }) (v := .bool true) rfl (by kernel_rfl) (by kernel_rfl) (by kernel_rfl) (fun _ _ _ h => h) (Or.inl ⟨by rfl, by (intro w hSw; (try dsimp only at hSw); first | (go_simp; done) | (go_simp; with_reducible rfl) | (go_simp; omega) | (go_simp; simp [*]; done))⟩) (by assumption) ?_; try simp only [Act.put, List.setIfInBounds_toArray, List.set_cons_zero, List.set_cons_succ]
          refine wpAnyH_done (by kernel_rfl) ?_ _
          go_wp2_with fail
          go_ret
          exact ⟨(by first | rfl | (simp; done) | (simp [*]; done) | (rw [if_pos (by omega)]; first | rfl | (simp; done)) | (rw [if_neg (by omega)]; first | rfl | (simp; done)) | (simp; omega)), (by repeat (first | exact Below.refl _ _ | apply below_alloc | apply pw_below_drewN | apply below_drew1 | (refine Below.setCell ?_ (by first | (simp; done) | (simp; omega) | omega) _) | (refine below_then ?_ (by first | (simp; done) | (simp; omega) | omega) hb2) | exact hBw))⟩
      · obtain rfl : k = l.length := by omega
        by_cases hl0 : l.length = 0
        · obtain rfl := HR.out.2.2.1 hl0
          go_wp2_with fail
          go_ret
          exact ⟨(by first | rfl | (simp; done) | (simp [*]; done) | (rw [if_pos (by omega)]; first | rfl | (simp; done)) | (rw [if_neg (by omega)]; first | rfl | (simp; done)) | (simp; omega)), (by repeat (first | exact Below.refl _ _ | apply below_alloc | apply pw_below_drewN | apply below_drew1 | (refine Below.setCell ?_ (by first | (simp; done) | (simp; omega) | omega) _) | exact hBw))⟩
        · have i3 : ¬ (l.length : Int) = 0 := by omega
          by_cases ht0 : tx.size = 0
          · obtain rfl := size0 ht0
            cases lg with
            | false =>
              obtain rfl := HR.out.2.1 (fun k hk => hne.out k hk hk) (by omega) (.inr ⟨rfl, rfl⟩)
              go_wp2_with fail
              go_ret
              exact ⟨(by first | rfl | (simp; done) | (simp [*]; done) | (rw [if_pos (by omega)]; first | rfl | (simp; done)) | (rw [if_neg (by omega)]; first | rfl | (simp; done)) | (simp; omega)), (by repeat (first | exact Below.refl _ _ | apply below_alloc | apply pw_below_drewN | apply below_drew1 | (refine Below.setCell ?_ (by first | (simp; done) | (simp; omega) | omega) _) | exact hBw))⟩
            | true =>
              obtain rfl := HR.out.2.2.2 (by trivial) (by simp)
              go_wp2_with fail
              go_ret
              exact ⟨(by first | rfl | (simp; done) | (simp [*]; done) | (rw [if_pos (by omega)]; first | rfl | (simp; done)) | (rw [if_neg (by omega)]; first | rfl | (simp; done)) | (simp; omega)), (by repeat (first | exact Below.refl _ _ | apply below_alloc | apply pw_below_drewN | apply below_drew1 | (refine Below.setCell ?_ (by first | (simp; done) | (simp; omega) | omega) _) | exact hBw))⟩
          · have hx := beq_empty_no ht0
            obtain rfl := HR.out.2.2.2 (by trivial) (fun h => ht0 h.1)
            go_wp2_with fail
            go_ret
            exact ⟨(by first | rfl | (simp; done) | (simp [*]; done) | (rw [if_pos (by omega)]; first | rfl | (simp; done)) | (rw [if_neg (by omega)]; first | rfl | (simp; done)) | (simp; omega)), (by repeat (first | exact Below.refl _ _ | apply below_alloc | apply pw_below_drewN | apply below_drew1 | (refine Below.setCell ?_ (by first | (simp; done) | (simp; omega) | omega) _) | exact hBw))⟩
  · obtain rfl := hn (fun hh => hf (by
      have h2 := hh.2.2.2.2.1
      rw [if_pos (by omega)] at h2
      exact h2))
    clear hq hn
    go_enter Tryd.func63, Tryd.ntmps63
    go_wp2_with fail
    refine (HC.out _ (cell_below (B := w.heap.size) (by repeat (first | exact Below.refl _ _ | apply below_alloc | apply pw_below_drewN | apply below_drew1 | (refine Below.setCell ?_ (by first | (simp; done) | (simp; omega) | omega) _) )) hm hg) (Nat.lt_of_lt_of_le hg (Below.size (show Below w.heap.size w _ from (by repeat (first | exact Below.refl _ _ | apply below_alloc | apply pw_below_drewN | apply below_drew1 | (refine Below.setCell ?_ (by first | (simp; done) | (simp; omega) | omega) _) )))))).mono ?_
    rintro e w1 ⟨rfl, hb1⟩
    go_wp2_with fail
    go_ret
    exact ⟨(by first | rfl | (simp; done) | (simp [*]; done) | (rw [if_pos (by omega)]; first | rfl | (simp; done)) | (rw [if_neg (by omega)]; first | rfl | (simp; done)) | (simp; omega)), (by repeat (first | exact Below.refl _ _ | apply below_alloc | apply pw_below_drewN | apply below_drew1 | (refine Below.setCell ?_ (by first | (simp; done) | (simp; omega) | omega) _) | (refine below_then ?_ (by first | (simp; done) | (simp; omega) | omega) hb1)))⟩
end Go.Proofs.YtijdghplfhfpaaaDoor.H

/- Sessions: lmtp.Check of a session whose text is being told. -/
namespace Go.Proofs.YtijdghplfhfpaaaDoor.H
open Go.RowKit Go.Proofs.YtijdghplfhfpaaaDoorW.PrintWords Go.Proofs.YtijdghplfhfpaaaDoorW.PrintLast Go.Proofs.YtijdghplfhfpaaaDoor.U
set_option linter.unusedVariables false
set_option linter.unusedSimpArgs false
attribute [local go_sem high] eqAAddress eqbAAddress_self
set_option maxHeartbeats 1000000 in
set_option maxRecDepth 100000 in
theorem lmtpCheck_4 (fr : AAddress) (A : Option Addr) (c : Nat) (l : List AAddress) (tx : ByteArray) (lg : Bool) (w : World) (hr : Kd.C kAAddress w A l.length l) (hlc : l.length ≤ c) (hl : l.length ≤ 5) (ht : tx.size ≤ 2000) (m : Int) (ha : fr.loc.size ≤ 1048576) (hb : fr.dom.size ≤ 1048576) (hs : ∀ x ∈ l, x.loc.size ≤ 1048576 ∧ x.dom.size ≤ 1048576) (hm : w.cell? ⟨6, 0, none⟩ = some (.int .i64 m)) (hg : 6 < w.heap.size) :
    Calls Tryd.prog 63 #[.agg #[.int .i64 4, .string fr.loc, .string fr.dom, .slice A l.length c, .string tx, .bool lg]] w fun e w' => e = .returned (.int .i64 (sessFault 4 fr l tx lg)) ∧ Below w.heap.size w w' := by
  have hi : ¬ (5 : Int) < l.length := by omega
  have hi2 : ¬ (2000 : Int) < tx.size := by omega
  have HC := fun w hm hg => check_calls fr.loc fr.dom m w ha hb hm hg
  have HK := fun k (hk : k < l.length) w hm hg => check_calls l[k].loc l[k].dom m w (hs _ (List.getElem_mem hk)).1 (hs _ (List.getElem_mem hk)).2 hm hg
  have HI : ∀ k (hk : k < l.length) (w : World), Kd.C kAAddress w A k (l.take k) → Calls Tryd.prog 98 #[.slice A k c, .agg #[.string l[k].loc, .string l[k].dom]] w fun e w' => e = .returned (.bool (hasA (l.take k) l[k])) ∧ Below w.heap.size w w' := fun k hk w hr => by
    have hlk : (l.take k).length = k := by rw [List.length_take]; omega
    have h := addrContains_calls A c (l.take k) l[k] w (by rw [hlk]; exact hr)
    rw [hlk] at h
    exact h
  have hq := fun h => sess_yes (st := 4) (fr := fr) (l := l) (tx := tx) (lg := lg) h
  have hn := fun h => sess_no (st := 4) (fr := fr) (l := l) (tx := tx) (lg := lg) h
  generalize sessFault 4 fr l tx lg = r at *
  unfold sessMay at hq hn
  generalize addrFault fr.loc fr.dom = f at *
  have HC := Lib.hid HC
  have HK := Lib.hid HK
  have HI := Lib.hid HI
  by_cases hf : f = 0
  · subst hf
    have hbad : ∀ k (hk : k < l.length), ¬ okA l k hk → r = 11 := fun k hk h => hn fun hh => h (by
      have h2 := hh.2.2.2.2.2.1
      rw [if_pos (by omega)] at h2
      exact h2.2 k hk)
    have hend : (∀ k (hk : k < l.length), okA l k hk) → 0 < l.length → ((4 : Int) = 4 ∨ (tx.size = 0 ∧ lg = false)) → r = 0 := fun h h0 h1 => hq ⟨by omega, by omega, hl, ht, by rw [if_pos (by omega)], by rw [if_pos (by omega)]; exact ⟨h0, h⟩, h1⟩
    have hzero : l.length = 0 → r = 11 := fun h => hn fun hh => by
      have h2 := hh.2.2.2.2.2.1
      rw [if_pos (by omega)] at h2
      omega
    have hthree : (4 : Int) = 3 → ¬ (tx.size = 0 ∧ lg = false) → r = 11 := fun h h1 => hn fun hh => h1 (hh.2.2.2.2.2.2.resolve_left (by omega))
    have HR := Lib.hid (And.intro hbad (And.intro hend (And.intro hzero hthree)))
    clear hbad hend hzero hthree hq hn
    go_enter Tryd.func63, Tryd.ntmps63
    go_wp2_with fail
    refine (HC.out _ (cell_below (B := w.heap.size) (by repeat (first | exact Below.refl _ _ | apply below_alloc | apply pw_below_drewN | apply below_drew1 | (refine Below.setCell ?_ (by first | (simp; done) | (simp; omega) | omega) _) )) hm hg) (Nat.lt_of_lt_of_le hg (Below.size (show Below w.heap.size w _ from (by repeat (first | exact Below.refl _ _ | apply below_alloc | apply pw_below_drewN | apply below_drew1 | (refine Below.setCell ?_ (by first | (simp; done) | (simp; omega) | omega) _) )))))).mono ?_
    rintro e w1 ⟨rfl, hb1⟩
    obtain ⟨hc_w1, hf_w1⟩ := bcell hb1
    have s_ := hb1.size
    (try simp at s_)
    (first | (have : w.heap.size < w1.heap.size := by omega) | skip)
    have : w.heap.size ≤ w1.heap.size := by omega
    (first | (have : w.heap.size + 1 < w1.heap.size := by omega) | skip)
    have : w.heap.size + 1 ≤ w1.heap.size := by omega
    clear s_
    have : w1.cell? ⟨w.heap.size, 0, none⟩ = some (.int .i64 4) := (by rw [hc_w1 _ _ (by first | (simp; done) | (simp; omega))]; first | (simp; done) | (simp [*]; done) | assumption | (simp [go_sem, *]; done)); have : w1.frozen? ⟨w.heap.size, 0, none⟩ = false := (by rw [hf_w1 _ _ (by first | (simp; done) | (simp; omega))]; first | (simp; done) | (simp [*]; done) | assumption | (simp [go_sem, *]; done)); have : w1.cell? ⟨w.heap.size, 1, none⟩ = some (.string fr.loc) := (by rw [hc_w1 _ _ (by first | (simp; done) | (simp; omega))]; first | (simp; done) | (simp [*]; done) | assumption | (simp [go_sem, *]; done)); have : w1.frozen? ⟨w.heap.size, 1, none⟩ = false := (by rw [hf_w1 _ _ (by first | (simp; done) | (simp; omega))]; first | (simp; done) | (simp [*]; done) | assumption | (simp [go_sem, *]; done)); have : w1.cell? ⟨w.heap.size, 2, none⟩ = some (.string fr.dom) := (by rw [hc_w1 _ _ (by first | (simp; done) | (simp; omega))]; first | (simp; done) | (simp [*]; done) | assumption | (simp [go_sem, *]; done)); have : w1.frozen? ⟨w.heap.size, 2, none⟩ = false := (by rw [hf_w1 _ _ (by first | (simp; done) | (simp; omega))]; first | (simp; done) | (simp [*]; done) | assumption | (simp [go_sem, *]; done)); have : w1.cell? ⟨w.heap.size, 3, none⟩ = some (.slice A l.length c) := (by rw [hc_w1 _ _ (by first | (simp; done) | (simp; omega))]; first | (simp; done) | (simp [*]; done) | assumption | (simp [go_sem, *]; done)); have : w1.frozen? ⟨w.heap.size, 3, none⟩ = false := (by rw [hf_w1 _ _ (by first | (simp; done) | (simp; omega))]; first | (simp; done) | (simp [*]; done) | assumption | (simp [go_sem, *]; done)); have : w1.cell? ⟨w.heap.size, 4, none⟩ = some (.string tx) := (by rw [hc_w1 _ _ (by first | (simp; done) | (simp; omega))]; first | (simp; done) | (simp [*]; done) | assumption | (simp [go_sem, *]; done)); have : w1.frozen? ⟨w.heap.size, 4, none⟩ = false := (by rw [hf_w1 _ _ (by first | (simp; done) | (simp; omega))]; first | (simp; done) | (simp [*]; done) | assumption | (simp [go_sem, *]; done)); have : w1.cell? ⟨w.heap.size, 5, none⟩ = some (.bool lg) := (by rw [hc_w1 _ _ (by first | (simp; done) | (simp; omega))]; first | (simp; done) | (simp [*]; done) | assumption | (simp [go_sem, *]; done)); have : w1.frozen? ⟨w.heap.size, 5, none⟩ = false := (by rw [hf_w1 _ _ (by first | (simp; done) | (simp; omega))]; first | (simp; done) | (simp [*]; done) | assumption | (simp [go_sem, *]; done))
    have : w1.cell? ⟨w.heap.size + 1, 0, none⟩ = some (.int .i64 4) := (by rw [hc_w1 _ _ (by first | (simp; done) | (simp; omega))]; first | (simp; done) | (simp [*]; done) | assumption | (simp [go_sem, *]; done)); have : w1.frozen? ⟨w.heap.size + 1, 0, none⟩ = false := (by rw [hf_w1 _ _ (by first | (simp; done) | (simp; omega))]; first | (simp; done) | (simp [*]; done) | assumption | (simp [go_sem, *]; done)); have : w1.cell? ⟨w.heap.size + 1, 1, none⟩ = some (.string ⟨#[]⟩) := (by rw [hc_w1 _ _ (by first | (simp; done) | (simp; omega))]; first | (simp; done) | (simp [*]; done) | assumption | (simp [go_sem, *]; done)); have : w1.frozen? ⟨w.heap.size + 1, 1, none⟩ = false := (by rw [hf_w1 _ _ (by first | (simp; done) | (simp; omega))]; first | (simp; done) | (simp [*]; done) | assumption | (simp [go_sem, *]; done)); have : w1.cell? ⟨w.heap.size + 1, 2, none⟩ = some (.string ⟨#[]⟩) := (by rw [hc_w1 _ _ (by first | (simp; done) | (simp; omega))]; first | (simp; done) | (simp [*]; done) | assumption | (simp [go_sem, *]; done)); have : w1.frozen? ⟨w.heap.size + 1, 2, none⟩ = false := (by rw [hf_w1 _ _ (by first | (simp; done) | (simp; omega))]; first | (simp; done) | (simp [*]; done) | assumption | (simp [go_sem, *]; done)); have : w1.cell? ⟨w.heap.size + 1, 3, none⟩ = some (.slice none 0 0) := (by rw [hc_w1 _ _ (by first | (simp; done) | (simp; omega))]; first | (simp; done) | (simp [*]; done) | assumption | (simp [go_sem, *]; done)); have : w1.frozen? ⟨w.heap.size + 1, 3, none⟩ = false := (by rw [hf_w1 _ _ (by first | (simp; done) | (simp; omega))]; first | (simp; done) | (simp [*]; done) | assumption | (simp [go_sem, *]; done)); have : w1.cell? ⟨w.heap.size + 1, 4, none⟩ = some (.string ⟨#[]⟩) := (by rw [hc_w1 _ _ (by first | (simp; done) | (simp; omega))]; first | (simp; done) | (simp [*]; done) | assumption | (simp [go_sem, *]; done)); have : w1.frozen? ⟨w.heap.size + 1, 4, none⟩ = false := (by rw [hf_w1 _ _ (by first | (simp; done) | (simp; omega))]; first | (simp; done) | (simp [*]; done) | assumption | (simp [go_sem, *]; done)); have : w1.cell? ⟨w.heap.size + 1, 5, none⟩ = some (.bool false) := (by rw [hc_w1 _ _ (by first | (simp; done) | (simp; omega))]; first | (simp; done) | (simp [*]; done) | assumption | (simp [go_sem, *]; done)); have : w1.frozen? ⟨w.heap.size + 1, 5, none⟩ = false := (by rw [hf_w1 _ _ (by first | (simp; done) | (simp; omega))]; first | (simp; done) | (simp [*]; done) | assumption | (simp [go_sem, *]; done))
    clear hc_w1 hf_w1
    go_wp2_with fail
    have hB0 : Below w.heap.size w ((w1.setCell ⟨w.heap.size + 1, 1, none⟩ (.string fr.loc)).setCell ⟨w.heap.size + 1, 2, none⟩ (.string fr.dom)) := (by (iterate 2 (refine Below.setCell ?_ (by first | (simp; done) | (simp; omega) | omega) _)); exact (by repeat (first | exact Below.refl _ _ | apply below_alloc | apply pw_below_drewN | apply below_drew1 | (refine Below.setCell ?_ (by first | (simp; done) | (simp; omega) | omega) _) | (refine below_then ?_ (by first | (simp; done) | (simp; omega) | omega) hb1))))
    go_loopw [55] (fun i wr => ∃ k : Nat, k ≤ l.length ∧ i = .int .i64 k ∧ (∀ j (hj : j < l.length), j < k → okA l j hj) ∧ Below (w.heap.size + 2) ((w1.setCell ⟨w.heap.size + 1, 1, none⟩ (.string fr.loc)).setCell ⟨w.heap.size + 1, 2, none⟩ (.string fr.dom)) wr) (fun i _ => l.length - (intOf i).toNat)
    case atStart => exact ⟨0, Nat.zero_le _, rfl, fun j _ hj => absurd hj (Nat.not_lt_zero _), Below.refl _ _⟩
    case round =>
      obtain ⟨k, hk, rfl, hne, hB⟩ := hrel
      have hne := Lib.hid hne
      have hBw : Below w.heap.size w wr := Below.trans hB0 (Below.mono hB (by omega))
      obtain ⟨hcb, hfb⟩ := bcellB hB
      have hz := hB.size
      simp at hz
      have hzw : w.heap.size + 1 < wr.heap.size := by omega
      have : wr.cell? ⟨w.heap.size, 0, none⟩ = some (.int .i64 4) := (by rw [hcb _ _ (by first | (simp; done) | (simp; omega))]; first | (simp; done) | (simp [*]; done) | assumption | (simp [go_sem, *]; done)); have : wr.frozen? ⟨w.heap.size, 0, none⟩ = false := (by rw [hfb _ _ (by first | (simp; done) | (simp; omega))]; first | (simp; done) | (simp [*]; done) | assumption | (simp [go_sem, *]; done)); have : wr.cell? ⟨w.heap.size, 1, none⟩ = some (.string fr.loc) := (by rw [hcb _ _ (by first | (simp; done) | (simp; omega))]; first | (simp; done) | (simp [*]; done) | assumption | (simp [go_sem, *]; done)); have : wr.frozen? ⟨w.heap.size, 1, none⟩ = false := (by rw [hfb _ _ (by first | (simp; done) | (simp; omega))]; first | (simp; done) | (simp [*]; done) | assumption | (simp [go_sem, *]; done)); have : wr.cell? ⟨w.heap.size, 2, none⟩ = some (.string fr.dom) := (by rw [hcb _ _ (by first | (simp; done) | (simp; omega))]; first | (simp; done) | (simp [*]; done) | assumption | (simp [go_sem, *]; done)); have : wr.frozen? ⟨w.heap.size, 2, none⟩ = false := (by rw [hfb _ _ (by first | (simp; done) | (simp; omega))]; first | (simp; done) | (simp [*]; done) | assumption | (simp [go_sem, *]; done)); have : wr.cell? ⟨w.heap.size, 3, none⟩ = some (.slice A l.length c) := (by rw [hcb _ _ (by first | (simp; done) | (simp; omega))]; first | (simp; done) | (simp [*]; done) | assumption | (simp [go_sem, *]; done)); have : wr.frozen? ⟨w.heap.size, 3, none⟩ = false := (by rw [hfb _ _ (by first | (simp; done) | (simp; omega))]; first | (simp; done) | (simp [*]; done) | assumption | (simp [go_sem, *]; done)); have : wr.cell? ⟨w.heap.size, 4, none⟩ = some (.string tx) := (by rw [hcb _ _ (by first | (simp; done) | (simp; omega))]; first | (simp; done) | (simp [*]; done) | assumption | (simp [go_sem, *]; done)); have : wr.frozen? ⟨w.heap.size, 4, none⟩ = false := (by rw [hfb _ _ (by first | (simp; done) | (simp; omega))]; first | (simp; done) | (simp [*]; done) | assumption | (simp [go_sem, *]; done)); have : wr.cell? ⟨w.heap.size, 5, none⟩ = some (.bool lg) := (by rw [hcb _ _ (by first | (simp; done) | (simp; omega))]; first | (simp; done) | (simp [*]; done) | assumption | (simp [go_sem, *]; done)); have : wr.frozen? ⟨w.heap.size, 5, none⟩ = false := (by rw [hfb _ _ (by first | (simp; done) | (simp; omega))]; first | (simp; done) | (simp [*]; done) | assumption | (simp [go_sem, *]; done))
      have : wr.cell? ⟨w.heap.size + 1, 0, none⟩ = some (.int .i64 4) := (by rw [hcb _ _ (by first | (simp; done) | (simp; omega))]; first | (simp; done) | (simp [*]; done) | assumption | (simp [go_sem, *]; done)); have : wr.frozen? ⟨w.heap.size + 1, 0, none⟩ = false := (by rw [hfb _ _ (by first | (simp; done) | (simp; omega))]; first | (simp; done) | (simp [*]; done) | assumption | (simp [go_sem, *]; done)); have : wr.cell? ⟨w.heap.size + 1, 1, none⟩ = some (.string fr.loc) := (by rw [hcb _ _ (by first | (simp; done) | (simp; omega))]; first | (simp; done) | (simp [*]; done) | assumption | (simp [go_sem, *]; done)); have : wr.frozen? ⟨w.heap.size + 1, 1, none⟩ = false := (by rw [hfb _ _ (by first | (simp; done) | (simp; omega))]; first | (simp; done) | (simp [*]; done) | assumption | (simp [go_sem, *]; done)); have : wr.cell? ⟨w.heap.size + 1, 2, none⟩ = some (.string fr.dom) := (by rw [hcb _ _ (by first | (simp; done) | (simp; omega))]; first | (simp; done) | (simp [*]; done) | assumption | (simp [go_sem, *]; done)); have : wr.frozen? ⟨w.heap.size + 1, 2, none⟩ = false := (by rw [hfb _ _ (by first | (simp; done) | (simp; omega))]; first | (simp; done) | (simp [*]; done) | assumption | (simp [go_sem, *]; done)); have : wr.cell? ⟨w.heap.size + 1, 3, none⟩ = some (.slice none 0 0) := (by rw [hcb _ _ (by first | (simp; done) | (simp; omega))]; first | (simp; done) | (simp [*]; done) | assumption | (simp [go_sem, *]; done)); have : wr.frozen? ⟨w.heap.size + 1, 3, none⟩ = false := (by rw [hfb _ _ (by first | (simp; done) | (simp; omega))]; first | (simp; done) | (simp [*]; done) | assumption | (simp [go_sem, *]; done)); have : wr.cell? ⟨w.heap.size + 1, 4, none⟩ = some (.string ⟨#[]⟩) := (by rw [hcb _ _ (by first | (simp; done) | (simp; omega))]; first | (simp; done) | (simp [*]; done) | assumption | (simp [go_sem, *]; done)); have : wr.frozen? ⟨w.heap.size + 1, 4, none⟩ = false := (by rw [hfb _ _ (by first | (simp; done) | (simp; omega))]; first | (simp; done) | (simp [*]; done) | assumption | (simp [go_sem, *]; done)); have : wr.cell? ⟨w.heap.size + 1, 5, none⟩ = some (.bool false) := (by rw [hcb _ _ (by first | (simp; done) | (simp; omega))]; first | (simp; done) | (simp [*]; done) | assumption | (simp [go_sem, *]; done)); have : wr.frozen? ⟨w.heap.size + 1, 5, none⟩ = false := (by rw [hfb _ _ (by first | (simp; done) | (simp; omega))]; first | (simp; done) | (simp [*]; done) | assumption | (simp [go_sem, *]; done))
      clear hcb hfb
      by_cases hlt : k < l.length
      · obtain ⟨ad, e1, hx0, hxj⟩ := flat_at (Kd.C_below hr hBw) k hlt
        subst e1
        have q0 := hx0 _ rfl; have q1 := hxj 1 _ (by decide) rfl
        clear hx0 hxj
        have hKk := fun w hm hg => HK.out k hlt w hm hg
        have hIk := fun w hr => HI.out k hlt w hr
        have hbadk := HR.out.1 k hlt
        have hstep : okA l k hlt → ∀ j (hj : j < l.length), j < k + 1 → okA l j hj := fun h j hj hjk => by
          rcases Nat.lt_or_ge j k with h' | h'
          · exact hne.out j hj h'
          · obtain rfl : j = k := by omega
            exact h
        unfold okA at hbadk
        generalize hx : l[k] = x at *
        generalize hfk : addrFault x.loc x.dom = fk at *
        generalize hik : hasA (l.take k) x = ik at *
        have hbadk := Lib.hid hbadk
        have hstep := Lib.hid hstep
        have hKk := Lib.hid hKk
        have hIk := Lib.hid hIk
        have i0 : (0 : Int) ≤ (k : Int) := by omega
        have i1 : (k : Int) < (l.length : Int) := by omega
        have i2 : (k : Int) ≤ (c : Int) := by omega
        by_cases hfk0 : fk = 0
        · subst hfk0
          cases ik with
          | true =>
            obtain rfl := hbadk.out (by simp)
            go_wp2_with fail
            go_region_held3 (fun w' => w'.cell? ⟨wr.heap.size, 0, none⟩ = some (.string x.loc) ∧ w'.cell? ⟨wr.heap.size, 1, none⟩ = some (.string x.dom) ∧ w'.cell? ⟨w.heap.size, 3, none⟩ = some (.slice (some ad) l.length c))
              (first | exact ⟨s0, s1, s3⟩ | exact ⟨t0, t1, t3⟩ | go_keep)
              (first
                | (go_at_call 97; refine (hKk.out _ (cell_below (B := w.heap.size) (by repeat (first | exact Below.refl _ _ | apply below_alloc | apply pw_below_drewN | apply below_drew1 | (refine Below.setCell ?_ (by first | (simp; done) | (simp; omega) | omega) _) | exact hBw)) hm hg) (Nat.lt_of_lt_of_le hg (Below.size (show Below w.heap.size w _ from (by repeat (first | exact Below.refl _ _ | apply below_alloc | apply pw_below_drewN | apply below_drew1 | (refine Below.setCell ?_ (by first | (simp; done) | (simp; omega) | omega) _) | exact hBw)))))).mono ?_; rintro e w2 ⟨rfl, hb2⟩; obtain ⟨hc2, hf2⟩ := bcell hb2; have hz2 : wr.heap.size < w2.heap.size := (by have := hb2.size; simp at this; omega); have t0 : w2.cell? ⟨wr.heap.size, 0, none⟩ = some (.string x.loc) := (by rw [hc2 _ _ (by first | (simp; done) | (simp; omega))]; simp [*]); have t1 : w2.cell? ⟨wr.heap.size, 1, none⟩ = some (.string x.dom) := (by rw [hc2 _ _ (by first | (simp; done) | (simp; omega))]; simp [*]); have t3 : w2.cell? ⟨w.heap.size, 3, none⟩ = some (.slice (some ad) l.length c) := (by rw [hc2 _ _ (by first | (simp; done) | (simp; omega))]; simp [*]))
                | (go_at_call 98; refine (hIk.out _ (C_pre (Kd.C_below hr (by repeat (first | exact Below.refl _ _ | apply below_alloc | apply pw_below_drewN | apply below_drew1 | (refine Below.setCell ?_ (by first | (simp; done) | (simp; omega) | omega) _) | (refine below_then ?_ (by first | (simp; done) | (simp; omega) | omega) hb2) | exact hBw))) k hk)).mono ?_; rintro e w3 ⟨rfl, hb3⟩; obtain ⟨hc3, hf3⟩ := bcell hb3; have s0 := (hc3 _ 0 hz2).trans t0; have s1 := (hc3 _ 1 hz2).trans t1; have s3 := (hc3 w.heap.size 3 (by omega)).trans t3))
            go_wp2_with fail
            go_ret
            exact ⟨(by first | rfl | (simp; done) | (simp [*]; done) | (rw [if_pos (by omega)]; first | rfl | (simp; done)) | (rw [if_neg (by omega)]; first | rfl | (simp; done)) | (simp; omega)), (by repeat (first | exact Below.refl _ _ | apply below_alloc | apply pw_below_drewN | apply below_drew1 | (refine Below.setCell ?_ (by first | (simp; done) | (simp; omega) | omega) _) | (refine below_then ?_ (by first | (simp; done) | (simp; omega) | omega) hb3) | (refine below_then ?_ (by first | (simp; done) | (simp; omega) | omega) hb2) | exact hBw))⟩
          | false =>
            have hstep := hstep.out (by simp [okA, hx, hfk, hik])
            clear hbadk
            go_wp2_with fail
            go_region_held3 (fun w' => w'.cell? ⟨wr.heap.size, 0, none⟩ = some (.string x.loc) ∧ w'.cell? ⟨wr.heap.size, 1, none⟩ = some (.string x.dom) ∧ w'.cell? ⟨w.heap.size, 3, none⟩ = some (.slice (some ad) l.length c))
              (first | exact ⟨s0, s1, s3⟩ | exact ⟨t0, t1, t3⟩ | go_keep)
              (first
                | (go_at_call 97; refine (hKk.out _ (cell_below (B := w.heap.size) (by repeat (first | exact Below.refl _ _ | apply below_alloc | apply pw_below_drewN | apply below_drew1 | (refine Below.setCell ?_ (by first | (simp; done) | (simp; omega) | omega) _) | exact hBw)) hm hg) (Nat.lt_of_lt_of_le hg (Below.size (show Below w.heap.size w _ from (by repeat (first | exact Below.refl _ _ | apply below_alloc | apply pw_below_drewN | apply below_drew1 | (refine Below.setCell ?_ (by first | (simp; done) | (simp; omega) | omega) _) | exact hBw)))))).mono ?_; rintro e w2 ⟨rfl, hb2⟩; obtain ⟨hc2, hf2⟩ := bcell hb2; have hz2 : wr.heap.size < w2.heap.size := (by have := hb2.size; simp at this; omega); have t0 : w2.cell? ⟨wr.heap.size, 0, none⟩ = some (.string x.loc) := (by rw [hc2 _ _ (by first | (simp; done) | (simp; omega))]; simp [*]); have t1 : w2.cell? ⟨wr.heap.size, 1, none⟩ = some (.string x.dom) := (by rw [hc2 _ _ (by first | (simp; done) | (simp; omega))]; simp [*]); have t3 : w2.cell? ⟨w.heap.size, 3, none⟩ = some (.slice (some ad) l.length c) := (by rw [hc2 _ _ (by first | (simp; done) | (simp; omega))]; simp [*]))
                | (go_at_call 98; refine (hIk.out _ (C_pre (Kd.C_below hr (by repeat (first | exact Below.refl _ _ | apply below_alloc | apply pw_below_drewN | apply below_drew1 | (refine Below.setCell ?_ (by first | (simp; done) | (simp; omega) | omega) _) | (refine below_then ?_ (by first | (simp; done) | (simp; omega) | omega) hb2) | exact hBw))) k hk)).mono ?_; rintro e w3 ⟨rfl, hb3⟩; obtain ⟨hc3, hf3⟩ := bcell hb3; have s0 := (hc3 _ 0 hz2).trans t0; have s1 := (hc3 _ 1 hz2).trans t1; have s3 := (hc3 w.heap.size 3 (by omega)).trans t3))
            go_wp2_with fail
            go_roundw
            case rel => exact ⟨k + 1, by omega, by go_num, hstep, (by repeat (first | exact Below.refl _ _ | apply below_alloc | apply pw_below_drewN | apply below_drew1 | (refine Below.setCell ?_ (by first | (simp; done) | (simp; omega) | omega) _) | (refine Below.trans ?_ (Below.mono hb3 (by first | (simp; done) | (simp; omega) | omega))) | (refine Below.trans ?_ (Below.mono hb2 (by first | (simp; done) | (simp; omega) | omega))) | exact (Below.alloc hB (by omega) _)))⟩
            case measure => simp [intOf]; omega
        · obtain rfl := hbadk.out (by simp [hfk0])
          go_wp2_with fail
          refine wp_region_held_drew (S := fun w' => w'.cell? ⟨wr.heap.size, 0, none⟩ = some (.string x.loc) ∧ w'.cell? ⟨wr.heap.size, 1, none⟩ = some (.string x.dom) ∧ w'.cell? ⟨w.heap.size, 3, none⟩ = some (.slice (some ad) l.length c)) (by kernel_rfl) ?_ (fun hHeld => ?_)
          · go_keep
          refine wpAnyH_take (i := 0) (oi := { dst := some 60, op := _, type := _, pos := _, after := _, guard := _ }) (v := .agg #[.string x.loc, .string x.dom]) rfl (by kernel_rfl) (by kernel_rfl) (by kernel_rfl) (fun _ _ _ h => h) (Or.inl ⟨by rfl, by (intro w hSw; (try dsimp only at hSw); first | (go_simp; done) | (go_simp; with_reducible rfl) | (go_simp; omega) | (go_simp; simp [*]; done))⟩) (by assumption) ?_; try simp only [Act.put, List.setIfInBounds_toArray, List.set_cons_zero, List.set_cons_succ]
          refine wpAnyH_ready (rs := [1]) (by kernel_rfl) (by simp) ?_
          refine AllReadyH.cons (o := { dst := some 61, op := _, type := _, pos := _, after := _, guard := _ }) rfl (fun K hK => ?_) AllReadyH.nil
          go_simp
          go_at_call 97
          refine (hKk.out _ (cell_below (B := w.heap.size) (by repeat (first | exact Below.refl _ _ | apply below_alloc | apply pw_below_drewN | apply below_drew1 | (refine Below.setCell ?_ (by first | (simp; done) | (simp; omega) | omega) _) | exact hBw)) hm hg) (Nat.lt_of_lt_of_le hg (Below.size (show Below w.heap.size w _ from (by repeat (first | exact Below.refl _ _ | apply below_alloc | apply pw_below_drewN | apply below_drew1 | (refine Below.setCell ?_ (by first | (simp; done) | (simp; omega) | omega) _) | exact hBw)))))).mono ?_
          rintro e w2 ⟨rfl, hb2⟩
          obtain ⟨hc2, hf2⟩ := bcell hb2
          go_wp2_with fail
          refine hK.out _ _ ?_ (fun hHeld => ?_)
          · refine ⟨?_, ?_, ?_⟩ <;> (rw [hc2 _ _ (by first | (simp; done) | (simp; omega))]; simp [*])
          clear hK K
          have hfkb : (fk != 0) = true := by simp [hfk0]
          refine wpAnyH_take (i := 2) (oi := { dst := some 62, op := _, type := _, pos := _, after := _, guard := _ }) (v := .bool true) rfl (by kernel_rfl) (by kernel_rfl) (by kernel_rfl) (fun _ _ _ h => h) (Or.inl ⟨by rfl, by (intro w hSw; (try dsimp only at hSw); first | (go_simp; done) | (go_simp; with_reducible rfl) | (go_simp; omega) | (go_simp; simp [*]; done))⟩) (by assumption) ?_; try simp only [Act.put, List.setIfInBounds_toArray, List.set_cons_zero, List.set_cons_succ]
          refine wpAnyH_take (i := 3) (oi := { dst := some 63, op := _, type := _, pos := _, after := _, guard := _ }) (v := .bool true) rfl (by kernel_rfl) (by kernel_rfl) (by kernel_rfl) (fun _ _ _ h => h) (Or.inl ⟨by rfl, by (intro w hSw; (try dsimp only at hSw); first | (go_simp; done) | (go_simp; with_reducible rfl) | (go_simp; omega) | (go_simp; simp [*]; done))⟩) (by assumption) ?_; try simp only [Act.put, List.setIfInBounds_toArray, List.set_cons_zero, List.set_cons_succ]
          refine wpAnyH_take (i := 4) (oi := { dst := some 64, op := _, type := _, pos := _, after := _, guard := _ }) (v := undef) rfl (by kernel_rfl) (by kernel_rfl) (by kernel_rfl) (fun _ _ _ h => h) (Or.inr ⟨by rfl, rfl⟩) (by assumption) ?_; try simp only [Act.put, List.setIfInBounds_toArray, List.set_cons_zero, List.set_cons_succ]
          refine wpAnyH_take (i := 5) (oi := { dst := some 65, op := _, type := _, pos := _, after := _, guard := _ }) (v := undef) rfl (by kernel_rfl) (by kernel_rfl) (by kernel_rfl) (fun _ _ _ h => h) (Or.inr ⟨by rfl, rfl⟩) (by assumption) ?_; try simp only [Act.put, List.setIfInBounds_toArray, List.set_cons_zero, List.set_cons_succ]
          refine wpAnyH_take (i := 6) (oi := { dst := some 66, op := _, type := _, pos := _, after := _, guard := _ }) (v := undef) rfl (by kernel_rfl) (by kernel_rfl) (by kernel_rfl) (fun _ _ _ h => h) (Or.inr ⟨by rfl, rfl⟩) (by assumption) ?_; try simp only [Act.put, List.setIfInBounds_toArray, List.set_cons_zero, List.set_cons_succ]
          refine wpAnyH_take (i := 7) (oi := { dst := some 67, op := _, type := _, pos := _, after := _, guard := _ }) (v := undef) rfl (by kernel_rfl) (by kernel_rfl) (by kernel_rfl) (fun _ _ _ h => h) (Or.inr ⟨by rfl, rfl⟩) (by assumption) ?_; try simp only [Act.put, List.setIfInBounds_toArray, List.set_cons_zero, List.set_cons_succ]
          refine wpAnyH_take (i := 8) (oi := { dst := some 68, op := _, type := _, pos := _, after := _, guard := _ }) (v := undef) rfl (by kernel_rfl) (by kernel_rfl) (by kernel_rfl) (fun _ _ _ h => h) (Or.inr ⟨by rfl, rfl⟩) (by assumption) ?_; try simp only [Act.put, List.setIfInBounds_toArray, List.set_cons_zero, List.set_cons_succ]
          refine wpAnyH_take (i := 9) (oi := { dst := some 69, op := _, type := _, pos := _, after := _, guard := _ }) (v := undef) rfl (by kernel_rfl) (by kernel_rfl) (by kernel_rfl) (fun _ _ _ h => h) (Or.inr ⟨by rfl, rfl⟩) (by assumption) ?_; try simp only [Act.put, List.setIfInBounds_toArray, List.set_cons_zero, List.set_cons_succ]
          refine wpAnyH_take (i := 10) (oi := { dst := some 70, op := _, type := _, pos := _, after := _, guard := _ }) (v := .bool true) rfl (by kernel_rfl) (by kernel_rfl) (by kernel_rfl) (fun _ _ _ h => h) (Or.inl ⟨by rfl, by (intro w hSw; (try dsimp only at hSw); first | (go_simp; done) | (go_simp; with_reducible rfl) | (go_simp; omega) | (go_simp; simp [*]; done))⟩) (by assumption) ?_; try simp only [Act.put, List.setIfInBounds_toArray, List.set_cons_zero, List.set_cons_succ]
          refine wpAnyH_done (by kernel_rfl) ?_ _
          go_wp2_with fail
          go_ret
          exact ⟨(by first | rfl | (simp; done) | (simp [*]; done) | (rw [if_pos (by omega)]; first | rfl | (simp; done)) | (rw [if_neg (by omega)]; first | rfl | (simp; done)) | (simp; omega)), (by repeat (first | exact Below.refl _ _ | apply below_alloc | apply pw_below_drewN | apply below_drew1 | (refine Below.setCell ?_ (by first | (simp; done) | (simp; omega) | omega) _) | (refine below_then ?_ (by first | (simp; done) | (simp; omega) | omega) hb2) | exact hBw))⟩
      · obtain rfl : k = l.length := by omega
        by_cases hl0 : l.length = 0
        · obtain rfl := HR.out.2.2.1 hl0
          go_wp2_with fail
          go_ret
          exact ⟨(by first | rfl | (simp; done) | (simp [*]; done) | (rw [if_pos (by omega)]; first | rfl | (simp; done)) | (rw [if_neg (by omega)]; first | rfl | (simp; done)) | (simp; omega)), (by repeat (first | exact Below.refl _ _ | apply below_alloc | apply pw_below_drewN | apply below_drew1 | (refine Below.setCell ?_ (by first | (simp; done) | (simp; omega) | omega) _) | exact hBw))⟩
        · have i3 : ¬ (l.length : Int) = 0 := by omega
          obtain rfl := HR.out.2.1 (fun k hk => hne.out k hk hk) (by omega) (.inl (by trivial))
          go_wp2_with fail
          go_region
          all_goals
            go_wp2_with fail
            go_ret
            exact ⟨(by first | rfl | (simp; done) | (simp [*]; done) | (rw [if_pos (by omega)]; first | rfl | (simp; done)) | (rw [if_neg (by omega)]; first | rfl | (simp; done)) | (simp; omega)), (by apply below_drew1; exact (by (iterate 2 (refine Below.setCell ?_ (by first | (simp; done) | (simp; omega) | omega) _)); exact (by repeat (first | exact Below.refl _ _ | apply below_alloc | apply pw_below_drewN | apply below_drew1 | (refine Below.setCell ?_ (by first | (simp; done) | (simp; omega) | omega) _) | exact hBw))))⟩
  · obtain rfl := hn (fun hh => hf (by
      have h2 := hh.2.2.2.2.1
      rw [if_pos (by omega)] at h2
      exact h2))
    clear hq hn
    go_enter Tryd.func63, Tryd.ntmps63
    go_wp2_with fail
    refine (HC.out _ (cell_below (B := w.heap.size) (by repeat (first | exact Below.refl _ _ | apply below_alloc | apply pw_below_drewN | apply below_drew1 | (refine Below.setCell ?_ (by first | (simp; done) | (simp; omega) | omega) _) )) hm hg) (Nat.lt_of_lt_of_le hg (Below.size (show Below w.heap.size w _ from (by repeat (first | exact Below.refl _ _ | apply below_alloc | apply pw_below_drewN | apply below_drew1 | (refine Below.setCell ?_ (by first | (simp; done) | (simp; omega) | omega) _) )))))).mono ?_
    rintro e w1 ⟨rfl, hb1⟩
    go_wp2_with fail
    go_ret
    exact ⟨(by first | rfl | (simp; done) | (simp [*]; done) | (rw [if_pos (by omega)]; first | rfl | (simp; done)) | (rw [if_neg (by omega)]; first | rfl | (simp; done)) | (simp; omega)), (by repeat (first | exact Below.refl _ _ | apply below_alloc | apply pw_below_drewN | apply below_drew1 | (refine Below.setCell ?_ (by first | (simp; done) | (simp; omega) | omega) _) | (refine below_then ?_ (by first | (simp; done) | (simp; omega) | omega) hb1)))⟩
end Go.Proofs.YtijdghplfhfpaaaDoor.H

/- Sessions: the walk of the reference's SessionFault. -/
namespace Go.Proofs.YtijdghplfhfpaaaDoor.H
open Go.RowKit Go.Proofs.YtijdghplfhfpaaaDoorW.PrintWords Go.Proofs.YtijdghplfhfpaaaDoorW.PrintLast Go.Proofs.YtijdghplfhfpaaaDoor.U
set_option linter.unusedVariables false
set_option linter.unusedSimpArgs false
set_option maxHeartbeats 1000000 in
set_option maxRecDepth 100000 in
theorem refSession_bad (st : Int) (fr : AAddress) (A : Option Addr) (c : Nat) (l : List AAddress) (tx : ByteArray) (lg : Bool) (w : World) (h : st < 0 ∨ 5 < st ∨ 5 < l.length ∨ 2000 < tx.size) :
    Calls Tryd.prog 67 #[.agg #[.int .i64 st, .string fr.loc, .string fr.dom, .slice A l.length c, .string tx, .bool lg]] w fun e w' => e = .returned (.int .i64 11) ∧ Below w.heap.size w w' := by
  rcases (by omega : ¬ (0 ≤ st ∧ st ≤ 5) ∨ (0 ≤ st ∧ st ≤ 5 ∧ (5 : Int) < l.length) ∨ (0 ≤ st ∧ st ≤ 5 ∧ ¬ (5 : Int) < l.length ∧ (2000 : Int) < tx.size)) with h | ⟨h1, h2, h⟩ | ⟨h1, h2, h3, h⟩
  all_goals
    go_enter Tryd.func67, Tryd.ntmps67
    go_wp2_with ((go_at_call 52; first | (refine (in_yes _ _ _ _ (by omega) (by omega)).mono ?_; rintro e w' ⟨rfl, rfl⟩) | (refine (in_no _ _ _ _ (by omega)).mono ?_; rintro e w' ⟨rfl, rfl⟩)))
    go_ret
    exact ⟨(by first | rfl | (simp; done) | (simp [*]; done) | (rw [if_pos (by omega)]; first | rfl | (simp; done)) | (rw [if_neg (by omega)]; first | rfl | (simp; done)) | (simp; omega)), (by repeat (first | exact Below.refl _ _ | apply below_alloc | apply pw_below_drewN | apply below_drew1 | (refine Below.setCell ?_ (by first | (simp; done) | (simp; omega) | omega) _) ))⟩
set_option maxHeartbeats 1000000 in
set_option maxRecDepth 100000 in
theorem refSession_none (st : Int) (h0 : 0 ≤ st) (h5 : st ≤ 5) (hn2 : ¬ (2 ≤ st ∧ st ≤ 4)) (fr : AAddress) (A : Option Addr) (c : Nat) (l : List AAddress) (tx : ByteArray) (lg : Bool) (w : World) (hl : l.length ≤ 5) (ht : tx.size ≤ 2000) :
    Calls Tryd.prog 67 #[.agg #[.int .i64 st, .string fr.loc, .string fr.dom, .slice A l.length c, .string tx, .bool lg]] w fun e w' => e = .returned (.int .i64 (sessFault st fr l tx lg)) ∧ Below w.heap.size w w' := by
  have hi : ¬ (5 : Int) < l.length := by omega
  have hi2 : ¬ (2000 : Int) < tx.size := by omega
  have hn3 : ¬ (3 ≤ st ∧ st ≤ 4) := by omega
  have hne : ¬ st = 4 := by omega
  have hq := fun h => sess_yes (st := st) (fr := fr) (l := l) (tx := tx) (lg := lg) h
  have hn := fun h => sess_no (st := st) (fr := fr) (l := l) (tx := tx) (lg := lg) h
  generalize sessFault st fr l tx lg = r at *
  unfold sessMay at hq hn
  rw [if_neg hn2, if_neg hn3] at hq hn
  by_cases hfl : fr.loc.size = 0
  · have hfl' := size0 hfl
    by_cases hfd : fr.dom.size = 0
    · have hfd' := size0 hfd
      have hf : fr = emptyA := by cases fr; simp_all [emptyA]
      by_cases hl0 : l.length = 0
      · have hi0 : (l.length : Int) = 0 := by omega
        have HR := Lib.hid (And.intro (fun h => hq ⟨h0, h5, hl, ht, hf, hl0, .inr h⟩) (fun (h : ¬ (tx.size = 0 ∧ lg = false)) => hn fun hh => h (hh.2.2.2.2.2.2.resolve_left hne)))
        subst hf
        unfold emptyA
        clear hq hn hfl hfl' hfd hfd'
        go_enter Tryd.func67, Tryd.ntmps67
        go_wp2_with ((go_at_call 52; first | (refine (in_yes _ _ _ _ (by omega) (by omega)).mono ?_; rintro e w' ⟨rfl, rfl⟩) | (refine (in_no _ _ _ _ (by omega)).mono ?_; rintro e w' ⟨rfl, rfl⟩)))
        go_loopw [5] (fun i wr => i = .int .i64 0 ∧ wr = w.alloc (.cells #[.int .i64 st, .string ⟨#[]⟩, .string ⟨#[]⟩, .slice A 0 c, .string tx, .bool lg] 52)) (fun _ _ => 0)
        case atStart => exact ⟨rfl, rfl⟩
        case round =>
          obtain ⟨rfl, rfl⟩ := hrel
          -- the text and the flag: behind the loop
          by_cases ht0 : tx.size = 0
          · obtain rfl := size0 ht0
            cases lg with
            | false =>
              obtain rfl := HR.out.1 ⟨rfl, rfl⟩
              go_wp2_with fail
              go_ret
              exact ⟨(by first | rfl | (simp; done) | (simp [*]; done) | (rw [if_pos (by omega)]; first | rfl | (simp; done)) | (rw [if_neg (by omega)]; first | rfl | (simp; done)) | (simp; omega)), (by repeat (first | exact Below.refl _ _ | apply below_alloc | apply pw_below_drewN | apply below_drew1 | (refine Below.setCell ?_ (by first | (simp; done) | (simp; omega) | omega) _) ))⟩
            | true =>
              obtain rfl := HR.out.2 (by simp)
              go_wp2_with fail
              go_ret
              exact ⟨(by first | rfl | (simp; done) | (simp [*]; done) | (rw [if_pos (by omega)]; first | rfl | (simp; done)) | (rw [if_neg (by omega)]; first | rfl | (simp; done)) | (simp; omega)), (by repeat (first | exact Below.refl _ _ | apply below_alloc | apply pw_below_drewN | apply below_drew1 | (refine Below.setCell ?_ (by first | (simp; done) | (simp; omega) | omega) _) ))⟩
          · have hx := beq_empty_no ht0
            obtain rfl := HR.out.2 (fun h => ht0 h.1)
            go_wp2_with fail
            go_ret
            exact ⟨(by first | rfl | (simp; done) | (simp [*]; done) | (rw [if_pos (by omega)]; first | rfl | (simp; done)) | (rw [if_neg (by omega)]; first | rfl | (simp; done)) | (simp; omega)), (by repeat (first | exact Below.refl _ _ | apply below_alloc | apply pw_below_drewN | apply below_drew1 | (refine Below.setCell ?_ (by first | (simp; done) | (simp; omega) | omega) _) ))⟩
      · have hi3 : (0 : Int) < l.length := by omega
        obtain rfl := hn (fun hh => hl0 hh.2.2.2.2.2.1)
        subst hf
        unfold emptyA
        clear hq hn hfl hfl' hfd hfd'
        go_enter Tryd.func67, Tryd.ntmps67
        go_wp2_with ((go_at_call 52; first | (refine (in_yes _ _ _ _ (by omega) (by omega)).mono ?_; rintro e w' ⟨rfl, rfl⟩) | (refine (in_no _ _ _ _ (by omega)).mono ?_; rintro e w' ⟨rfl, rfl⟩)))
        go_ret
        exact ⟨(by first | rfl | (simp; done) | (simp [*]; done) | (rw [if_pos (by omega)]; first | rfl | (simp; done)) | (rw [if_neg (by omega)]; first | rfl | (simp; done)) | (simp; omega)), (by repeat (first | exact Below.refl _ _ | apply below_alloc | apply pw_below_drewN | apply below_drew1 | (refine Below.setCell ?_ (by first | (simp; done) | (simp; omega) | omega) _) ))⟩
    · have hx := beq_empty_no hfd
      obtain rfl := hn (fun hh => hfd (by rw [hh.2.2.2.2.1]; rfl))
      clear hq hn
      go_enter Tryd.func67, Tryd.ntmps67
      go_wp2_with ((go_at_call 52; first | (refine (in_yes _ _ _ _ (by omega) (by omega)).mono ?_; rintro e w' ⟨rfl, rfl⟩) | (refine (in_no _ _ _ _ (by omega)).mono ?_; rintro e w' ⟨rfl, rfl⟩)))
      go_ret
      exact ⟨(by first | rfl | (simp; done) | (simp [*]; done) | (rw [if_pos (by omega)]; first | rfl | (simp; done)) | (rw [if_neg (by omega)]; first | rfl | (simp; done)) | (simp; omega)), (by repeat (first | exact Below.refl _ _ | apply below_alloc | apply pw_below_drewN | apply below_drew1 | (refine Below.setCell ?_ (by first | (simp; done) | (simp; omega) | omega) _) ))⟩
  · have hx := beq_empty_no hfl
    obtain rfl := hn (fun hh => hfl (by rw [hh.2.2.2.2.1]; rfl))
    clear hq hn
    go_enter Tryd.func67, Tryd.ntmps67
    go_wp2_with ((go_at_call 52; first | (refine (in_yes _ _ _ _ (by omega) (by omega)).mono ?_; rintro e w' ⟨rfl, rfl⟩) | (refine (in_no _ _ _ _ (by omega)).mono ?_; rintro e w' ⟨rfl, rfl⟩)))
    go_ret
    exact ⟨(by first | rfl | (simp; done) | (simp [*]; done) | (rw [if_pos (by omega)]; first | rfl | (simp; done)) | (rw [if_neg (by omega)]; first | rfl | (simp; done)) | (simp; omega)), (by repeat (first | exact Below.refl _ _ | apply below_alloc | apply pw_below_drewN | apply below_drew1 | (refine Below.setCell ?_ (by first | (simp; done) | (simp; omega) | omega) _) ))⟩
set_option maxHeartbeats 1000000 in
set_option maxRecDepth 100000 in
theorem refSession_two (st : Int) (hst : st = 2) (fr : AAddress) (A : Option Addr) (c : Nat) (l : List AAddress) (tx : ByteArray) (lg : Bool) (w : World) (hl : l.length ≤ 5) (ht : tx.size ≤ 2000) (ha : fr.loc.size ≤ 1048576) (hb : fr.dom.size ≤ 1048576) :
    Calls Tryd.prog 67 #[.agg #[.int .i64 st, .string fr.loc, .string fr.dom, .slice A l.length c, .string tx, .bool lg]] w fun e w' => e = .returned (.int .i64 (sessFault st fr l tx lg)) ∧ Below w.heap.size w w' := by
  have h0 : 0 ≤ st := by omega
  have h5 : st ≤ 5 := by omega
  have hs2 : 2 ≤ st := by omega
  have hs4 : st ≤ 4 := by omega
  have hn3 : ¬ (3 ≤ st ∧ st ≤ 4) := by omega
  have hne : ¬ st = 4 := by omega
  clear hst
  have hi : ¬ (5 : Int) < l.length := by omega
  have hi2 : ¬ (2000 : Int) < tx.size := by omega
  have hq := fun h => sess_yes (st := st) (fr := fr) (l := l) (tx := tx) (lg := lg) h
  have hn := fun h => sess_no (st := st) (fr := fr) (l := l) (tx := tx) (lg := lg) h
  have HC := fun w => addressFault_calls fr.loc fr.dom w ha hb
  generalize sessFault st fr l tx lg = r at *
  unfold sessMay at hq hn
  rw [if_pos ⟨hs2, hs4⟩, if_neg hn3] at hq hn
  generalize addrFault fr.loc fr.dom = f at *
  have HC := Lib.hid HC
  by_cases hf : f = 0
  · subst hf
    by_cases hl0 : l.length = 0
    · have hi0 : (l.length : Int) = 0 := by omega
      have HR := Lib.hid (And.intro (fun h => hq ⟨h0, h5, hl, ht, rfl, hl0, .inr h⟩) (fun (h : ¬ (tx.size = 0 ∧ lg = false)) => hn fun hh => h (hh.2.2.2.2.2.2.resolve_left hne)))
      clear hq hn
      go_enter Tryd.func67, Tryd.ntmps67
      go_wp2_with ((go_at_call 52; first | (refine (in_yes _ _ _ _ (by omega) (by omega)).mono ?_; rintro e w' ⟨rfl, rfl⟩) | (refine (in_no _ _ _ _ (by omega)).mono ?_; rintro e w' ⟨rfl, rfl⟩)))
      refine (HC.out _).mono ?_
      rintro e w1 ⟨rfl, hb1⟩
      obtain ⟨hc_w1, hf_w1⟩ := bcell hb1
      have s_ := hb1.size
      (try simp at s_)
      (first | (have : w.heap.size < w1.heap.size := by omega) | skip)
      have : w.heap.size ≤ w1.heap.size := by omega
      clear s_
      have : w1.cell? ⟨w.heap.size, 0, none⟩ = some (.int .i64 st) := (by rw [hc_w1 _ _ (by first | (simp; done) | (simp; omega))]; first | (simp; done) | (simp [*]; done) | assumption | (simp [go_sem, *]; done)); have : w1.frozen? ⟨w.heap.size, 0, none⟩ = false := (by rw [hf_w1 _ _ (by first | (simp; done) | (simp; omega))]; first | (simp; done) | (simp [*]; done) | assumption | (simp [go_sem, *]; done)); have : w1.cell? ⟨w.heap.size, 1, none⟩ = some (.string fr.loc) := (by rw [hc_w1 _ _ (by first | (simp; done) | (simp; omega))]; first | (simp; done) | (simp [*]; done) | assumption | (simp [go_sem, *]; done)); have : w1.frozen? ⟨w.heap.size, 1, none⟩ = false := (by rw [hf_w1 _ _ (by first | (simp; done) | (simp; omega))]; first | (simp; done) | (simp [*]; done) | assumption | (simp [go_sem, *]; done)); have : w1.cell? ⟨w.heap.size, 2, none⟩ = some (.string fr.dom) := (by rw [hc_w1 _ _ (by first | (simp; done) | (simp; omega))]; first | (simp; done) | (simp [*]; done) | assumption | (simp [go_sem, *]; done)); have : w1.frozen? ⟨w.heap.size, 2, none⟩ = false := (by rw [hf_w1 _ _ (by first | (simp; done) | (simp; omega))]; first | (simp; done) | (simp [*]; done) | assumption | (simp [go_sem, *]; done)); have : w1.cell? ⟨w.heap.size, 3, none⟩ = some (.slice A l.length c) := (by rw [hc_w1 _ _ (by first | (simp; done) | (simp; omega))]; first | (simp; done) | (simp [*]; done) | assumption | (simp [go_sem, *]; done)); have : w1.frozen? ⟨w.heap.size, 3, none⟩ = false := (by rw [hf_w1 _ _ (by first | (simp; done) | (simp; omega))]; first | (simp; done) | (simp [*]; done) | assumption | (simp [go_sem, *]; done)); have : w1.cell? ⟨w.heap.size, 4, none⟩ = some (.string tx) := (by rw [hc_w1 _ _ (by first | (simp; done) | (simp; omega))]; first | (simp; done) | (simp [*]; done) | assumption | (simp [go_sem, *]; done)); have : w1.frozen? ⟨w.heap.size, 4, none⟩ = false := (by rw [hf_w1 _ _ (by first | (simp; done) | (simp; omega))]; first | (simp; done) | (simp [*]; done) | assumption | (simp [go_sem, *]; done)); have : w1.cell? ⟨w.heap.size, 5, none⟩ = some (.bool lg) := (by rw [hc_w1 _ _ (by first | (simp; done) | (simp; omega))]; first | (simp; done) | (simp [*]; done) | assumption | (simp [go_sem, *]; done)); have : w1.frozen? ⟨w.heap.size, 5, none⟩ = false := (by rw [hf_w1 _ _ (by first | (simp; done) | (simp; omega))]; first | (simp; done) | (simp [*]; done) | assumption | (simp [go_sem, *]; done))
      clear hc_w1 hf_w1
      go_wp2_with ((go_at_call 52; first | (refine (in_yes _ _ _ _ (by omega) (by omega)).mono ?_; rintro e w' ⟨rfl, rfl⟩) | (refine (in_no _ _ _ _ (by omega)).mono ?_; rintro e w' ⟨rfl, rfl⟩)))
      go_loopw [5] (fun i wr => i = .int .i64 0 ∧ wr = w1) (fun _ _ => 0)
      case atStart => exact ⟨rfl, rfl⟩
      case round =>
        obtain ⟨rfl, rfl⟩ := hrel
        -- the text and the flag: behind the loop
        by_cases ht0 : tx.size = 0
        · obtain rfl := size0 ht0
          cases lg with
          | false =>
            obtain rfl := HR.out.1 ⟨rfl, rfl⟩
            go_wp2_with fail
            go_ret
            exact ⟨(by first | rfl | (simp; done) | (simp [*]; done) | (rw [if_pos (by omega)]; first | rfl | (simp; done)) | (rw [if_neg (by omega)]; first | rfl | (simp; done)) | (simp; omega)), (by repeat (first | exact Below.refl _ _ | apply below_alloc | apply pw_below_drewN | apply below_drew1 | (refine Below.setCell ?_ (by first | (simp; done) | (simp; omega) | omega) _) | (refine below_then ?_ (by first | (simp; done) | (simp; omega) | omega) hb1)))⟩
          | true =>
            obtain rfl := HR.out.2 (by simp)
            go_wp2_with fail
            go_ret
            exact ⟨(by first | rfl | (simp; done) | (simp [*]; done) | (rw [if_pos (by omega)]; first | rfl | (simp; done)) | (rw [if_neg (by omega)]; first | rfl | (simp; done)) | (simp; omega)), (by repeat (first | exact Below.refl _ _ | apply below_alloc | apply pw_below_drewN | apply below_drew1 | (refine Below.setCell ?_ (by first | (simp; done) | (simp; omega) | omega) _) | (refine below_then ?_ (by first | (simp; done) | (simp; omega) | omega) hb1)))⟩
        · have hx := beq_empty_no ht0
          obtain rfl := HR.out.2 (fun h => ht0 h.1)
          go_wp2_with fail
          go_ret
          exact ⟨(by first | rfl | (simp; done) | (simp [*]; done) | (rw [if_pos (by omega)]; first | rfl | (simp; done)) | (rw [if_neg (by omega)]; first | rfl | (simp; done)) | (simp; omega)), (by repeat (first | exact Below.refl _ _ | apply below_alloc | apply pw_below_drewN | apply below_drew1 | (refine Below.setCell ?_ (by first | (simp; done) | (simp; omega) | omega) _) | (refine below_then ?_ (by first | (simp; done) | (simp; omega) | omega) hb1)))⟩
    · have hi3 : (0 : Int) < l.length := by omega
      obtain rfl := hn (fun hh => hl0 hh.2.2.2.2.2.1)
      clear hq hn
      go_enter Tryd.func67, Tryd.ntmps67
      go_wp2_with ((go_at_call 52; first | (refine (in_yes _ _ _ _ (by omega) (by omega)).mono ?_; rintro e w' ⟨rfl, rfl⟩) | (refine (in_no _ _ _ _ (by omega)).mono ?_; rintro e w' ⟨rfl, rfl⟩)))
      refine (HC.out _).mono ?_
      rintro e w1 ⟨rfl, hb1⟩
      obtain ⟨hc_w1, hf_w1⟩ := bcell hb1
      have s_ := hb1.size
      (try simp at s_)
      (first | (have : w.heap.size < w1.heap.size := by omega) | skip)
      have : w.heap.size ≤ w1.heap.size := by omega
      clear s_
      have : w1.cell? ⟨w.heap.size, 0, none⟩ = some (.int .i64 st) := (by rw [hc_w1 _ _ (by first | (simp; done) | (simp; omega))]; first | (simp; done) | (simp [*]; done) | assumption | (simp [go_sem, *]; done)); have : w1.frozen? ⟨w.heap.size, 0, none⟩ = false := (by rw [hf_w1 _ _ (by first | (simp; done) | (simp; omega))]; first | (simp; done) | (simp [*]; done) | assumption | (simp [go_sem, *]; done)); have : w1.cell? ⟨w.heap.size, 1, none⟩ = some (.string fr.loc) := (by rw [hc_w1 _ _ (by first | (simp; done) | (simp; omega))]; first | (simp; done) | (simp [*]; done) | assumption | (simp [go_sem, *]; done)); have : w1.frozen? ⟨w.heap.size, 1, none⟩ = false := (by rw [hf_w1 _ _ (by first | (simp; done) | (simp; omega))]; first | (simp; done) | (simp [*]; done) | assumption | (simp [go_sem, *]; done)); have : w1.cell? ⟨w.heap.size, 2, none⟩ = some (.string fr.dom) := (by rw [hc_w1 _ _ (by first | (simp; done) | (simp; omega))]; first | (simp; done) | (simp [*]; done) | assumption | (simp [go_sem, *]; done)); have : w1.frozen? ⟨w.heap.size, 2, none⟩ = false := (by rw [hf_w1 _ _ (by first | (simp; done) | (simp; omega))]; first | (simp; done) | (simp [*]; done) | assumption | (simp [go_sem, *]; done)); have : w1.cell? ⟨w.heap.size, 3, none⟩ = some (.slice A l.length c) := (by rw [hc_w1 _ _ (by first | (simp; done) | (simp; omega))]; first | (simp; done) | (simp [*]; done) | assumption | (simp [go_sem, *]; done)); have : w1.frozen? ⟨w.heap.size, 3, none⟩ = false := (by rw [hf_w1 _ _ (by first | (simp; done) | (simp; omega))]; first | (simp; done) | (simp [*]; done) | assumption | (simp [go_sem, *]; done)); have : w1.cell? ⟨w.heap.size, 4, none⟩ = some (.string tx) := (by rw [hc_w1 _ _ (by first | (simp; done) | (simp; omega))]; first | (simp; done) | (simp [*]; done) | assumption | (simp [go_sem, *]; done)); have : w1.frozen? ⟨w.heap.size, 4, none⟩ = false := (by rw [hf_w1 _ _ (by first | (simp; done) | (simp; omega))]; first | (simp; done) | (simp [*]; done) | assumption | (simp [go_sem, *]; done)); have : w1.cell? ⟨w.heap.size, 5, none⟩ = some (.bool lg) := (by rw [hc_w1 _ _ (by first | (simp; done) | (simp; omega))]; first | (simp; done) | (simp [*]; done) | assumption | (simp [go_sem, *]; done)); have : w1.frozen? ⟨w.heap.size, 5, none⟩ = false := (by rw [hf_w1 _ _ (by first | (simp; done) | (simp; omega))]; first | (simp; done) | (simp [*]; done) | assumption | (simp [go_sem, *]; done))
      clear hc_w1 hf_w1
      go_wp2_with ((go_at_call 52; first | (refine (in_yes _ _ _ _ (by omega) (by omega)).mono ?_; rintro e w' ⟨rfl, rfl⟩) | (refine (in_no _ _ _ _ (by omega)).mono ?_; rintro e w' ⟨rfl, rfl⟩)))
      go_ret
      exact ⟨(by first | rfl | (simp; done) | (simp [*]; done) | (rw [if_pos (by omega)]; first | rfl | (simp; done)) | (rw [if_neg (by omega)]; first | rfl | (simp; done)) | (simp; omega)), (by repeat (first | exact Below.refl _ _ | apply below_alloc | apply pw_below_drewN | apply below_drew1 | (refine Below.setCell ?_ (by first | (simp; done) | (simp; omega) | omega) _) | (refine below_then ?_ (by first | (simp; done) | (simp; omega) | omega) hb1)))⟩
  · obtain rfl := hn (fun hh => hf hh.2.2.2.2.1)
    clear hq hn
    go_enter Tryd.func67, Tryd.ntmps67
    go_wp2_with ((go_at_call 52; first | (refine (in_yes _ _ _ _ (by omega) (by omega)).mono ?_; rintro e w' ⟨rfl, rfl⟩) | (refine (in_no _ _ _ _ (by omega)).mono ?_; rintro e w' ⟨rfl, rfl⟩)))
    refine (HC.out _).mono ?_
    rintro e w1 ⟨rfl, hb1⟩
    obtain ⟨hc_w1, hf_w1⟩ := bcell hb1
    have s_ := hb1.size
    (try simp at s_)
    (first | (have : w.heap.size < w1.heap.size := by omega) | skip)
    have : w.heap.size ≤ w1.heap.size := by omega
    clear s_
    have : w1.cell? ⟨w.heap.size, 0, none⟩ = some (.int .i64 st) := (by rw [hc_w1 _ _ (by first | (simp; done) | (simp; omega))]; first | (simp; done) | (simp [*]; done) | assumption | (simp [go_sem, *]; done)); have : w1.frozen? ⟨w.heap.size, 0, none⟩ = false := (by rw [hf_w1 _ _ (by first | (simp; done) | (simp; omega))]; first | (simp; done) | (simp [*]; done) | assumption | (simp [go_sem, *]; done)); have : w1.cell? ⟨w.heap.size, 1, none⟩ = some (.string fr.loc) := (by rw [hc_w1 _ _ (by first | (simp; done) | (simp; omega))]; first | (simp; done) | (simp [*]; done) | assumption | (simp [go_sem, *]; done)); have : w1.frozen? ⟨w.heap.size, 1, none⟩ = false := (by rw [hf_w1 _ _ (by first | (simp; done) | (simp; omega))]; first | (simp; done) | (simp [*]; done) | assumption | (simp [go_sem, *]; done)); have : w1.cell? ⟨w.heap.size, 2, none⟩ = some (.string fr.dom) := (by rw [hc_w1 _ _ (by first | (simp; done) | (simp; omega))]; first | (simp; done) | (simp [*]; done) | assumption | (simp [go_sem, *]; done)); have : w1.frozen? ⟨w.heap.size, 2, none⟩ = false := (by rw [hf_w1 _ _ (by first | (simp; done) | (simp; omega))]; first | (simp; done) | (simp [*]; done) | assumption | (simp [go_sem, *]; done)); have : w1.cell? ⟨w.heap.size, 3, none⟩ = some (.slice A l.length c) := (by rw [hc_w1 _ _ (by first | (simp; done) | (simp; omega))]; first | (simp; done) | (simp [*]; done) | assumption | (simp [go_sem, *]; done)); have : w1.frozen? ⟨w.heap.size, 3, none⟩ = false := (by rw [hf_w1 _ _ (by first | (simp; done) | (simp; omega))]; first | (simp; done) | (simp [*]; done) | assumption | (simp [go_sem, *]; done)); have : w1.cell? ⟨w.heap.size, 4, none⟩ = some (.string tx) := (by rw [hc_w1 _ _ (by first | (simp; done) | (simp; omega))]; first | (simp; done) | (simp [*]; done) | assumption | (simp [go_sem, *]; done)); have : w1.frozen? ⟨w.heap.size, 4, none⟩ = false := (by rw [hf_w1 _ _ (by first | (simp; done) | (simp; omega))]; first | (simp; done) | (simp [*]; done) | assumption | (simp [go_sem, *]; done)); have : w1.cell? ⟨w.heap.size, 5, none⟩ = some (.bool lg) := (by rw [hc_w1 _ _ (by first | (simp; done) | (simp; omega))]; first | (simp; done) | (simp [*]; done) | assumption | (simp [go_sem, *]; done)); have : w1.frozen? ⟨w.heap.size, 5, none⟩ = false := (by rw [hf_w1 _ _ (by first | (simp; done) | (simp; omega))]; first | (simp; done) | (simp [*]; done) | assumption | (simp [go_sem, *]; done))
    clear hc_w1 hf_w1
    go_wp2_with ((go_at_call 52; first | (refine (in_yes _ _ _ _ (by omega) (by omega)).mono ?_; rintro e w' ⟨rfl, rfl⟩) | (refine (in_no _ _ _ _ (by omega)).mono ?_; rintro e w' ⟨rfl, rfl⟩)))
    go_ret
    exact ⟨(by first | rfl | (simp; done) | (simp [*]; done) | (rw [if_pos (by omega)]; first | rfl | (simp; done)) | (rw [if_neg (by omega)]; first | rfl | (simp; done)) | (simp; omega)), (by repeat (first | exact Below.refl _ _ | apply below_alloc | apply pw_below_drewN | apply below_drew1 | (refine Below.setCell ?_ (by first | (simp; done) | (simp; omega) | omega) _) | (refine below_then ?_ (by first | (simp; done) | (simp; omega) | omega) hb1)))⟩
end Go.Proofs.YtijdghplfhfpaaaDoor.H

/- Sessions: the reference's SessionFault of a session with people to whom it goes. -/
namespace Go.Proofs.YtijdghplfhfpaaaDoor.H
open Go.RowKit Go.Proofs.YtijdghplfhfpaaaDoorW.PrintWords Go.Proofs.YtijdghplfhfpaaaDoorW.PrintLast Go.Proofs.YtijdghplfhfpaaaDoor.U
set_option linter.unusedVariables false
set_option linter.unusedSimpArgs false
set_option maxHeartbeats 1000000 in
set_option maxRecDepth 100000 in
theorem refSession_goes (st : Int) (h3 : 3 ≤ st) (h4 : st ≤ 4) (fr : AAddress) (A : Option Addr) (c : Nat) (l : List AAddress) (tx : ByteArray) (lg : Bool) (w : World) (hr : Kd.C kAAddress w A l.length l) (hlc : l.length ≤ c) (hl : l.length ≤ 5) (ht : tx.size ≤ 2000) (ha : fr.loc.size ≤ 1048576) (hb : fr.dom.size ≤ 1048576) (hs : ∀ x ∈ l, x.loc.size ≤ 1048576 ∧ x.dom.size ≤ 1048576) :
    Calls Tryd.prog 67 #[.agg #[.int .i64 st, .string fr.loc, .string fr.dom, .slice A l.length c, .string tx, .bool lg]] w fun e w' => e = .returned (.int .i64 (sessFault st fr l tx lg)) ∧ Below w.heap.size w w' := by
  have h0 : 0 ≤ st := by omega
  have h5 : st ≤ 5 := by omega
  have hs2 : 2 ≤ st := by omega
  have hi : ¬ (5 : Int) < l.length := by omega
  have hi2 : ¬ (2000 : Int) < tx.size := by omega
  have hq := fun h => sess_yes (st := st) (fr := fr) (l := l) (tx := tx) (lg := lg) h
  have hn := fun h => sess_no (st := st) (fr := fr) (l := l) (tx := tx) (lg := lg) h
  have HC := fun w => addressFault_calls fr.loc fr.dom w ha hb
  have HK := fun k (hk : k < l.length) w => addressFault_calls l[k].loc l[k].dom w (hs _ (List.getElem_mem hk)).1 (hs _ (List.getElem_mem hk)).2
  have HI : ∀ k (hk : k < l.length) (w : World), Kd.C kAAddress w A k (l.take k) → Calls Tryd.prog 105 #[.slice A k c, .agg #[.string l[k].loc, .string l[k].dom]] w fun e w' => e = .returned (.bool (hasA (l.take k) l[k])) ∧ Below w.heap.size w w' := fun k hk w hr => by
    have hlk : (l.take k).length = k := by rw [List.length_take]; omega
    have h := addressIn_calls A c (l.take k) l[k] w (by rw [hlk]; exact hr)
    rw [hlk] at h
    exact h
  generalize sessFault st fr l tx lg = r at *
  unfold sessMay at hq hn
  rw [if_pos ⟨hs2, h4⟩, if_pos ⟨h3, h4⟩] at hq hn
  generalize addrFault fr.loc fr.dom = f at *
  have HC := Lib.hid HC
  have HK := Lib.hid HK
  have HI := Lib.hid HI
  by_cases hf : f = 0
  · subst hf
    by_cases hl0 : l.length = 0
    · have hi0 : (l.length : Int) = 0 := by omega
      obtain rfl := hn (fun hh => by have := hh.2.2.2.2.2.1.1; omega)
      clear hq hn
      go_enter Tryd.func67, Tryd.ntmps67
      go_wp2_with ((go_at_call 52; first | (refine (in_yes _ _ _ _ (by omega) (by omega)).mono ?_; rintro e w' ⟨rfl, rfl⟩) | (refine (in_no _ _ _ _ (by omega)).mono ?_; rintro e w' ⟨rfl, rfl⟩)))
      refine (HC.out _).mono ?_
      rintro e w1 ⟨rfl, hb1⟩
      obtain ⟨hc_w1, hf_w1⟩ := bcell hb1
      have s_ := hb1.size
      (try simp at s_)
      (first | (have : w.heap.size < w1.heap.size := by omega) | skip)
      have : w.heap.size ≤ w1.heap.size := by omega
      clear s_
      have : w1.cell? ⟨w.heap.size, 0, none⟩ = some (.int .i64 st) := (by rw [hc_w1 _ _ (by first | (simp; done) | (simp; omega))]; first | (simp; done) | (simp [*]; done) | assumption | (simp [go_sem, *]; done)); have : w1.frozen? ⟨w.heap.size, 0, none⟩ = false := (by rw [hf_w1 _ _ (by first | (simp; done) | (simp; omega))]; first | (simp; done) | (simp [*]; done) | assumption | (simp [go_sem, *]; done)); have : w1.cell? ⟨w.heap.size, 1, none⟩ = some (.string fr.loc) := (by rw [hc_w1 _ _ (by first | (simp; done) | (simp; omega))]; first | (simp; done) | (simp [*]; done) | assumption | (simp [go_sem, *]; done)); have : w1.frozen? ⟨w.heap.size, 1, none⟩ = false := (by rw [hf_w1 _ _ (by first | (simp; done) | (simp; omega))]; first | (simp; done) | (simp [*]; done) | assumption | (simp [go_sem, *]; done)); have : w1.cell? ⟨w.heap.size, 2, none⟩ = some (.string fr.dom) := (by rw [hc_w1 _ _ (by first | (simp; done) | (simp; omega))]; first | (simp; done) | (simp [*]; done) | assumption | (simp [go_sem, *]; done)); have : w1.frozen? ⟨w.heap.size, 2, none⟩ = false := (by rw [hf_w1 _ _ (by first | (simp; done) | (simp; omega))]; first | (simp; done) | (simp [*]; done) | assumption | (simp [go_sem, *]; done)); have : w1.cell? ⟨w.heap.size, 3, none⟩ = some (.slice A l.length c) := (by rw [hc_w1 _ _ (by first | (simp; done) | (simp; omega))]; first | (simp; done) | (simp [*]; done) | assumption | (simp [go_sem, *]; done)); have : w1.frozen? ⟨w.heap.size, 3, none⟩ = false := (by rw [hf_w1 _ _ (by first | (simp; done) | (simp; omega))]; first | (simp; done) | (simp [*]; done) | assumption | (simp [go_sem, *]; done)); have : w1.cell? ⟨w.heap.size, 4, none⟩ = some (.string tx) := (by rw [hc_w1 _ _ (by first | (simp; done) | (simp; omega))]; first | (simp; done) | (simp [*]; done) | assumption | (simp [go_sem, *]; done)); have : w1.frozen? ⟨w.heap.size, 4, none⟩ = false := (by rw [hf_w1 _ _ (by first | (simp; done) | (simp; omega))]; first | (simp; done) | (simp [*]; done) | assumption | (simp [go_sem, *]; done)); have : w1.cell? ⟨w.heap.size, 5, none⟩ = some (.bool lg) := (by rw [hc_w1 _ _ (by first | (simp; done) | (simp; omega))]; first | (simp; done) | (simp [*]; done) | assumption | (simp [go_sem, *]; done)); have : w1.frozen? ⟨w.heap.size, 5, none⟩ = false := (by rw [hf_w1 _ _ (by first | (simp; done) | (simp; omega))]; first | (simp; done) | (simp [*]; done) | assumption | (simp [go_sem, *]; done))
      clear hc_w1 hf_w1
      go_wp2_with ((go_at_call 52; first | (refine (in_yes _ _ _ _ (by omega) (by omega)).mono ?_; rintro e w' ⟨rfl, rfl⟩) | (refine (in_no _ _ _ _ (by omega)).mono ?_; rintro e w' ⟨rfl, rfl⟩)))
      go_ret
      exact ⟨(by first | rfl | (simp; done) | (simp [*]; done) | (rw [if_pos (by omega)]; first | rfl | (simp; done)) | (rw [if_neg (by omega)]; first | rfl | (simp; done)) | (simp; omega)), (by repeat (first | exact Below.refl _ _ | apply below_alloc | apply pw_below_drewN | apply below_drew1 | (refine Below.setCell ?_ (by first | (simp; done) | (simp; omega) | omega) _) | (refine below_then ?_ (by first | (simp; done) | (simp; omega) | omega) hb1)))⟩
    · have hi3 : (0 : Int) < l.length := by omega
      have hdl : (!decide (0 < l.length)) = false := by rw [Bool.not_eq_false', decide_eq_true_eq]; omega
      have hbad : ∀ k (hk : k < l.length), ¬ okA l k hk → r = 11 := fun k hk h => hn fun hh => h (hh.2.2.2.2.2.1.2 k hk)
      have hend : (∀ k (hk : k < l.length), okA l k hk) → (st = 4 ∨ (tx.size = 0 ∧ lg = false)) → r = 0 := fun h h1 => hq ⟨h0, h5, hl, ht, rfl, ⟨by omega, h⟩, h1⟩
      have hthree : ¬ (st = 4 ∨ (tx.size = 0 ∧ lg = false)) → r = 11 := fun h1 => hn fun hh => h1 hh.2.2.2.2.2.2
      have HR := Lib.hid (And.intro hbad (And.intro hend hthree))
      clear hbad hend hthree hq hn
      go_enter Tryd.func67, Tryd.ntmps67
      go_wp2_with ((go_at_call 52; first | (refine (in_yes _ _ _ _ (by omega) (by omega)).mono ?_; rintro e w' ⟨rfl, rfl⟩) | (refine (in_no _ _ _ _ (by omega)).mono ?_; rintro e w' ⟨rfl, rfl⟩)))
      refine (HC.out _).mono ?_
      rintro e w1 ⟨rfl, hb1⟩
      obtain ⟨hc_w1, hf_w1⟩ := bcell hb1
      have s_ := hb1.size
      (try simp at s_)
      (first | (have : w.heap.size < w1.heap.size := by omega) | skip)
      have : w.heap.size ≤ w1.heap.size := by omega
      clear s_
      have : w1.cell? ⟨w.heap.size, 0, none⟩ = some (.int .i64 st) := (by rw [hc_w1 _ _ (by first | (simp; done) | (simp; omega))]; first | (simp; done) | (simp [*]; done) | assumption | (simp [go_sem, *]; done)); have : w1.frozen? ⟨w.heap.size, 0, none⟩ = false := (by rw [hf_w1 _ _ (by first | (simp; done) | (simp; omega))]; first | (simp; done) | (simp [*]; done) | assumption | (simp [go_sem, *]; done)); have : w1.cell? ⟨w.heap.size, 1, none⟩ = some (.string fr.loc) := (by rw [hc_w1 _ _ (by first | (simp; done) | (simp; omega))]; first | (simp; done) | (simp [*]; done) | assumption | (simp [go_sem, *]; done)); have : w1.frozen? ⟨w.heap.size, 1, none⟩ = false := (by rw [hf_w1 _ _ (by first | (simp; done) | (simp; omega))]; first | (simp; done) | (simp [*]; done) | assumption | (simp [go_sem, *]; done)); have : w1.cell? ⟨w.heap.size, 2, none⟩ = some (.string fr.dom) := (by rw [hc_w1 _ _ (by first | (simp; done) | (simp; omega))]; first | (simp; done) | (simp [*]; done) | assumption | (simp [go_sem, *]; done)); have : w1.frozen? ⟨w.heap.size, 2, none⟩ = false := (by rw [hf_w1 _ _ (by first | (simp; done) | (simp; omega))]; first | (simp; done) | (simp [*]; done) | assumption | (simp [go_sem, *]; done)); have : w1.cell? ⟨w.heap.size, 3, none⟩ = some (.slice A l.length c) := (by rw [hc_w1 _ _ (by first | (simp; done) | (simp; omega))]; first | (simp; done) | (simp [*]; done) | assumption | (simp [go_sem, *]; done)); have : w1.frozen? ⟨w.heap.size, 3, none⟩ = false := (by rw [hf_w1 _ _ (by first | (simp; done) | (simp; omega))]; first | (simp; done) | (simp [*]; done) | assumption | (simp [go_sem, *]; done)); have : w1.cell? ⟨w.heap.size, 4, none⟩ = some (.string tx) := (by rw [hc_w1 _ _ (by first | (simp; done) | (simp; omega))]; first | (simp; done) | (simp [*]; done) | assumption | (simp [go_sem, *]; done)); have : w1.frozen? ⟨w.heap.size, 4, none⟩ = false := (by rw [hf_w1 _ _ (by first | (simp; done) | (simp; omega))]; first | (simp; done) | (simp [*]; done) | assumption | (simp [go_sem, *]; done)); have : w1.cell? ⟨w.heap.size, 5, none⟩ = some (.bool lg) := (by rw [hc_w1 _ _ (by first | (simp; done) | (simp; omega))]; first | (simp; done) | (simp [*]; done) | assumption | (simp [go_sem, *]; done)); have : w1.frozen? ⟨w.heap.size, 5, none⟩ = false := (by rw [hf_w1 _ _ (by first | (simp; done) | (simp; omega))]; first | (simp; done) | (simp [*]; done) | assumption | (simp [go_sem, *]; done))
      clear hc_w1 hf_w1
      go_wp2_with ((go_at_call 52; first | (refine (in_yes _ _ _ _ (by omega) (by omega)).mono ?_; rintro e w' ⟨rfl, rfl⟩) | (refine (in_no _ _ _ _ (by omega)).mono ?_; rintro e w' ⟨rfl, rfl⟩)))
      go_loopw [5] (fun i wr => ∃ k : Nat, k ≤ l.length ∧ i = .int .i64 k ∧ (∀ j (hj : j < l.length), j < k → okA l j hj) ∧ Below (w.heap.size + 1) w1 wr) (fun i _ => l.length - (intOf i).toNat)
      case atStart => exact ⟨0, Nat.zero_le _, rfl, fun j _ hj => absurd hj (Nat.not_lt_zero _), Below.refl _ _⟩
      case round =>
        obtain ⟨k, hk, rfl, hne, hB⟩ := hrel
        have hne := Lib.hid hne
        have hBw : Below w.heap.size w wr := Below.trans (by repeat (first | exact Below.refl _ _ | apply below_alloc | apply pw_below_drewN | apply below_drew1 | (refine Below.setCell ?_ (by first | (simp; done) | (simp; omega) | omega) _) | (refine below_then ?_ (by first | (simp; done) | (simp; omega) | omega) hb1))) (Below.mono hB (by omega))
        obtain ⟨hcb, hfb⟩ := bcellB hB
        have hzw : w.heap.size < wr.heap.size := by have := hB.size; omega
        have : wr.cell? ⟨w.heap.size, 0, none⟩ = some (.int .i64 st) := (by rw [hcb _ _ (by first | (simp; done) | (simp; omega))]; first | (simp; done) | (simp [*]; done) | assumption | (simp [go_sem, *]; done)); have : wr.frozen? ⟨w.heap.size, 0, none⟩ = false := (by rw [hfb _ _ (by first | (simp; done) | (simp; omega))]; first | (simp; done) | (simp [*]; done) | assumption | (simp [go_sem, *]; done)); have : wr.cell? ⟨w.heap.size, 1, none⟩ = some (.string fr.loc) := (by rw [hcb _ _ (by first | (simp; done) | (simp; omega))]; first | (simp; done) | (simp [*]; done) | assumption | (simp [go_sem, *]; done)); have : wr.frozen? ⟨w.heap.size, 1, none⟩ = false := (by rw [hfb _ _ (by first | (simp; done) | (simp; omega))]; first | (simp; done) | (simp [*]; done) | assumption | (simp [go_sem, *]; done)); have : wr.cell? ⟨w.heap.size, 2, none⟩ = some (.string fr.dom) := (by rw [hcb _ _ (by first | (simp; done) | (simp; omega))]; first | (simp; done) | (simp [*]; done) | assumption | (simp [go_sem, *]; done)); have : wr.frozen? ⟨w.heap.size, 2, none⟩ = false := (by rw [hfb _ _ (by first | (simp; done) | (simp; omega))]; first | (simp; done) | (simp [*]; done) | assumption | (simp [go_sem, *]; done)); have : wr.cell? ⟨w.heap.size, 3, none⟩ = some (.slice A l.length c) := (by rw [hcb _ _ (by first | (simp; done) | (simp; omega))]; first | (simp; done) | (simp [*]; done) | assumption | (simp [go_sem, *]; done)); have : wr.frozen? ⟨w.heap.size, 3, none⟩ = false := (by rw [hfb _ _ (by first | (simp; done) | (simp; omega))]; first | (simp; done) | (simp [*]; done) | assumption | (simp [go_sem, *]; done)); have : wr.cell? ⟨w.heap.size, 4, none⟩ = some (.string tx) := (by rw [hcb _ _ (by first | (simp; done) | (simp; omega))]; first | (simp; done) | (simp [*]; done) | assumption | (simp [go_sem, *]; done)); have : wr.frozen? ⟨w.heap.size, 4, none⟩ = false := (by rw [hfb _ _ (by first | (simp; done) | (simp; omega))]; first | (simp; done) | (simp [*]; done) | assumption | (simp [go_sem, *]; done)); have : wr.cell? ⟨w.heap.size, 5, none⟩ = some (.bool lg) := (by rw [hcb _ _ (by first | (simp; done) | (simp; omega))]; first | (simp; done) | (simp [*]; done) | assumption | (simp [go_sem, *]; done)); have : wr.frozen? ⟨w.heap.size, 5, none⟩ = false := (by rw [hfb _ _ (by first | (simp; done) | (simp; omega))]; first | (simp; done) | (simp [*]; done) | assumption | (simp [go_sem, *]; done))
        clear hcb hfb
        by_cases hlt : k < l.length
        · have hCk := fun (W : World) (h : Below w.heap.size w W) => flat_at (Kd.C_below hr h) k hlt
          obtain ⟨ad, e1, hx0, hxj⟩ := hCk wr hBw
          subst e1
          have hCk : ∀ (W : World), Below w.heap.size w W → W.cell? (ad.add (k * 2)) = some (.string l[k].loc) ∧ W.cell? ⟨(ad.add (k * 2)).block, (ad.add (k * 2)).off + 1, none⟩ = some (.string l[k].dom) := fun W h => by
            obtain ⟨ad', e1, hy0, hyj⟩ := hCk W h
            obtain rfl : ad = ad' := Option.some.inj e1
            exact ⟨hy0 _ rfl, hyj 1 _ (by decide) rfl⟩
          clear hx0 hxj
          have hKk := fun w => HK.out k hlt w
          have hIk := fun w hr => HI.out k hlt w hr
          have hbadk := HR.out.1 k hlt
          have hstep : okA l k hlt → ∀ j (hj : j < l.length), j < k + 1 → okA l j hj := fun h j hj hjk => by
            rcases Nat.lt_or_ge j k with h' | h'
            · exact hne.out j hj h'
            · obtain rfl : j = k := by omega
              exact h
          unfold okA at hbadk
          generalize hx : l[k] = x at *
          generalize hfk : addrFault x.loc x.dom = fk at *
          generalize hik : hasA (l.take k) x = ik at *
          have hbadk := Lib.hid hbadk
          have hstep := Lib.hid hstep
          have hKk := Lib.hid hKk
          have hIk := Lib.hid hIk
          obtain ⟨q0, q1⟩ := hCk wr hBw
          have hCk := Lib.hid hCk
          have i0 : (0 : Int) ≤ (k : Int) := by omega
          have i1 : (k : Int) < (l.length : Int) := by omega
          have i2 : (k : Int) ≤ (c : Int) := by omega
          by_cases hfk0 : fk = 0
          · subst hfk0
            cases ik with
            | true =>
              obtain rfl := hbadk.out (by simp)
              go_wp2_with fail
              go_region_held3 (fun w' => w'.cell? ⟨w.heap.size, 3, none⟩ = some (.slice (some ad) l.length c) ∧ w'.cell? (ad.add (k * 2)) = some (.string x.loc) ∧ w'.cell? ⟨(ad.add (k * 2)).block, (ad.add (k * 2)).off + 1, none⟩ = some (.string x.dom))
                (first | exact ⟨s3, (hCk.out _ hBW3).1, (hCk.out _ hBW3).2⟩ | exact ⟨t3, (hCk.out _ hBW2).1, (hCk.out _ hBW2).2⟩ | go_keep)
                (first
                  | (go_at_call 104; refine (hKk.out _).mono ?_; rintro e w2 ⟨rfl, hb2⟩; obtain ⟨hc2, hf2⟩ := bcell hb2; have hz2 : wr.heap.size ≤ w2.heap.size := (by have := hb2.size; simp at this; omega); have hBW2 : Below w.heap.size w w2 := (by repeat (first | exact Below.refl _ _ | apply below_alloc | apply pw_below_drewN | apply below_drew1 | (refine Below.setCell ?_ (by first | (simp; done) | (simp; omega) | omega) _) | (refine below_then ?_ (by first | (simp; done) | (simp; omega) | omega) hb2) | exact hBw)); have t3 : w2.cell? ⟨w.heap.size, 3, none⟩ = some (.slice (some ad) l.length c) := (by rw [hc2 _ _ (by first | (simp; done) | (simp; omega))]; simp [*]))
                  | (go_at_call 105; refine (hIk.out _ (C_pre (Kd.C_below hr (by repeat (first | exact Below.refl _ _ | apply below_alloc | apply pw_below_drewN | apply below_drew1 | (refine Below.setCell ?_ (by first | (simp; done) | (simp; omega) | omega) _) | exact hBW2))) k hk)).mono ?_; rintro e w3 ⟨rfl, hb3⟩; obtain ⟨hc3, hf3⟩ := bcell hb3; have hBW3 : Below w.heap.size w w3 := (by repeat (first | exact Below.refl _ _ | apply below_alloc | apply pw_below_drewN | apply below_drew1 | (refine Below.setCell ?_ (by first | (simp; done) | (simp; omega) | omega) _) | (refine below_then ?_ (by first | (simp; done) | (simp; omega) | omega) hb3) | exact hBW2)); have s3 := (hc3 w.heap.size 3 (by omega)).trans t3))
              go_wp2_with fail
              go_ret
              exact ⟨(by first | rfl | (simp; done) | (simp [*]; done) | (rw [if_pos (by omega)]; first | rfl | (simp; done)) | (rw [if_neg (by omega)]; first | rfl | (simp; done)) | (simp; omega)), (by repeat (first | exact Below.refl _ _ | apply below_alloc | apply pw_below_drewN | apply below_drew1 | (refine Below.setCell ?_ (by first | (simp; done) | (simp; omega) | omega) _) | (refine below_then ?_ (by first | (simp; done) | (simp; omega) | omega) hb3) | (refine below_then ?_ (by first | (simp; done) | (simp; omega) | omega) hb2) | exact hBw))⟩
            | false =>
              have hstep := hstep.out (by simp [okA, hx, hfk, hik])
              clear hbadk
              go_wp2_with fail
              go_region_held3 (fun w' => w'.cell? ⟨w.heap.size, 3, none⟩ = some (.slice (some ad) l.length c) ∧ w'.cell? (ad.add (k * 2)) = some (.string x.loc) ∧ w'.cell? ⟨(ad.add (k * 2)).block, (ad.add (k * 2)).off + 1, none⟩ = some (.string x.dom))
                (first | exact ⟨s3, (hCk.out _ hBW3).1, (hCk.out _ hBW3).2⟩ | exact ⟨t3, (hCk.out _ hBW2).1, (hCk.out _ hBW2).2⟩ | go_keep)
                (first
                  | (go_at_call 104; refine (hKk.out _).mono ?_; rintro e w2 ⟨rfl, hb2⟩; obtain ⟨hc2, hf2⟩ := bcell hb2; have hz2 : wr.heap.size ≤ w2.heap.size := (by have := hb2.size; simp at this; omega); have hBW2 : Below w.heap.size w w2 := (by repeat (first | exact Below.refl _ _ | apply below_alloc | apply pw_below_drewN | apply below_drew1 | (refine Below.setCell ?_ (by first | (simp; done) | (simp; omega) | omega) _) | (refine below_then ?_ (by first | (simp; done) | (simp; omega) | omega) hb2) | exact hBw)); have t3 : w2.cell? ⟨w.heap.size, 3, none⟩ = some (.slice (some ad) l.length c) := (by rw [hc2 _ _ (by first | (simp; done) | (simp; omega))]; simp [*]))
                  | (go_at_call 105; refine (hIk.out _ (C_pre (Kd.C_below hr (by repeat (first | exact Below.refl _ _ | apply below_alloc | apply pw_below_drewN | apply below_drew1 | (refine Below.setCell ?_ (by first | (simp; done) | (simp; omega) | omega) _) | exact hBW2))) k hk)).mono ?_; rintro e w3 ⟨rfl, hb3⟩; obtain ⟨hc3, hf3⟩ := bcell hb3; have hBW3 : Below w.heap.size w w3 := (by repeat (first | exact Below.refl _ _ | apply below_alloc | apply pw_below_drewN | apply below_drew1 | (refine Below.setCell ?_ (by first | (simp; done) | (simp; omega) | omega) _) | (refine below_then ?_ (by first | (simp; done) | (simp; omega) | omega) hb3) | exact hBW2)); have s3 := (hc3 w.heap.size 3 (by omega)).trans t3))
              go_wp2_with fail
              go_roundw
              case rel => exact ⟨k + 1, by omega, by go_num, hstep, (by repeat (first | exact Below.refl _ _ | apply below_alloc | apply pw_below_drewN | apply below_drew1 | (refine Below.setCell ?_ (by first | (simp; done) | (simp; omega) | omega) _) | (refine Below.trans ?_ (Below.mono hb3 (by first | (simp; done) | (simp; omega) | omega))) | (refine Below.trans ?_ (Below.mono hb2 (by first | (simp; done) | (simp; omega) | omega))) | exact hB))⟩
              case measure => simp [intOf]; omega
          · obtain rfl := hbadk.out (by simp [hfk0])
            go_wp2_with fail
            refine wp_region_held_drew (S := fun w' => w'.cell? ⟨w.heap.size, 3, none⟩ = some (.slice (some ad) l.length c) ∧ w'.cell? (ad.add (k * 2)) = some (.string x.loc) ∧ w'.cell? ⟨(ad.add (k * 2)).block, (ad.add (k * 2)).off + 1, none⟩ = some (.string x.dom)) (by kernel_rfl) ?_ (fun hHeld => ?_)
            · go_keep
            have hfkb : (fk != 0) = true := by simp [hfk0]
            refine wpAnyH_take (i := 0) (oi := { dst := some 64, op := _, type := _, pos := _, after := _, guard := _ }) (v := .pointer (some ⟨w.heap.size, 3, none⟩)) rfl (by kernel_rfl) (by kernel_rfl) (by kernel_rfl) (fun _ _ _ h => h) (Or.inl ⟨by rfl, by (intro w hSw; (try dsimp only at hSw); first | (go_simp; done) | (go_simp; with_reducible rfl) | (go_simp; omega) | (go_simp; simp [*]; done))⟩) (by assumption) ?_; try simp only [Act.put, List.setIfInBounds_toArray, List.set_cons_zero, List.set_cons_succ]
            refine wpAnyH_take (i := 1) (oi := { dst := some 65, op := _, type := _, pos := _, after := _, guard := _ }) (v := .slice (some ad) l.length c) rfl (by kernel_rfl) (by kernel_rfl) (by kernel_rfl) (fun _ _ _ h => h) (Or.inl ⟨by rfl, by (intro w hSw; (try dsimp only at hSw); first | (go_simp; done) | (go_simp; with_reducible rfl) | (go_simp; omega) | (go_simp; simp [*]; done))⟩) (by assumption) ?_; try simp only [Act.put, List.setIfInBounds_toArray, List.set_cons_zero, List.set_cons_succ]
            refine wpAnyH_take (i := 2) (oi := { dst := some 66, op := _, type := _, pos := _, after := _, guard := _ }) (v := .int .i64 k) rfl (by kernel_rfl) (by kernel_rfl) (by kernel_rfl) (fun _ _ _ h => h) (Or.inl ⟨by rfl, by (intro w hSw; (try dsimp only at hSw); first | (go_simp; done) | (go_simp; with_reducible rfl) | (go_simp; omega) | (go_simp; simp [*]; done))⟩) (by assumption) ?_; try simp only [Act.put, List.setIfInBounds_toArray, List.set_cons_zero, List.set_cons_succ]
            refine wpAnyH_take (i := 3) (oi := { dst := some 67, op := _, type := _, pos := _, after := _, guard := _ }) (v := .pointer (some (ad.add (k * 2)))) rfl (by kernel_rfl) (by kernel_rfl) (by kernel_rfl) (fun _ _ _ h => h) (Or.inl ⟨by rfl, by (intro w hSw; (try dsimp only at hSw); first | (go_simp; done) | (go_simp; with_reducible rfl) | (go_simp; omega) | (go_simp; simp [*]; done))⟩) (by assumption) ?_; try simp only [Act.put, List.setIfInBounds_toArray, List.set_cons_zero, List.set_cons_succ]
            refine wpAnyH_take (i := 4) (oi := { dst := some 68, op := _, type := _, pos := _, after := _, guard := _ }) (v := .agg #[.string x.loc, .string x.dom]) rfl (by kernel_rfl) (by kernel_rfl) (by kernel_rfl) (fun _ _ _ h => h) (Or.inl ⟨by rfl, by (intro w hSw; (try dsimp only at hSw); first | (go_simp; done) | (go_simp; with_reducible rfl) | (go_simp; omega) | (go_simp; simp [*]; done))⟩) (by assumption) ?_; try simp only [Act.put, List.setIfInBounds_toArray, List.set_cons_zero, List.set_cons_succ]
            refine wpAnyH_ready (rs := [5]) (by kernel_rfl) (by simp) ?_
            refine AllReadyH.cons (o := { dst := some 69, op := _, type := _, pos := _, after := _, guard := _ }) rfl (fun K hK => ?_) AllReadyH.nil
            go_simp
            go_at_call 104
            refine (hKk.out _).mono ?_
            rintro e w2 ⟨rfl, hb2⟩
            obtain ⟨hc2, hf2⟩ := bcell hb2
            have hBW2 : Below w.heap.size w w2 := (by repeat (first | exact Below.refl _ _ | apply below_alloc | apply pw_below_drewN | apply below_drew1 | (refine Below.setCell ?_ (by first | (simp; done) | (simp; omega) | omega) _) | (refine below_then ?_ (by first | (simp; done) | (simp; omega) | omega) hb2) | exact hBw))
            go_wp2_with fail
            refine hK.out _ _ ?_ (fun hHeld => ?_)
            · exact ⟨by rw [hc2 _ _ (by first | (simp; done) | (simp; omega))]; simp [*], (hCk.out _ hBW2).1, (hCk.out _ hBW2).2⟩
            clear hK K
            refine wpAnyH_take (i := 6) (oi := { dst := some 70, op := _, type := _, pos := _, after := _, guard := _ }) (v := .bool true) rfl (by kernel_rfl) (by kernel_rfl) (by kernel_rfl) (fun _ _ _ h => h) (Or.inl ⟨by rfl, by (intro w hSw; (try dsimp only at hSw); first | (go_simp; done) | (go_simp; with_reducible rfl) | (go_simp; omega) | (go_simp; simp [*]; done))⟩) (by assumption) ?_; try simp only [Act.put, List.setIfInBounds_toArray, List.set_cons_zero, List.set_cons_succ]
            refine wpAnyH_take (i := 7) (oi := { dst := some 71, op := _, type := _, pos := _, after := _, guard := _ }) (v := .bool true) rfl (by kernel_rfl) (by kernel_rfl) (by kernel_rfl) (fun _ _ _ h => h) (Or.inl ⟨by rfl, by (intro w hSw; (try dsimp only at hSw); first | (go_simp; done) | (go_simp; with_reducible rfl) | (go_simp; omega) | (go_simp; simp [*]; done))⟩) (by assumption) ?_; try simp only [Act.put, List.setIfInBounds_toArray, List.set_cons_zero, List.set_cons_succ]
            refine wpAnyH_take (i := 8) (oi := { dst := some 72, op := _, type := _, pos := _, after := _, guard := _ }) (v := undef) rfl (by kernel_rfl) (by kernel_rfl) (by kernel_rfl) (fun _ _ _ h => h) (Or.inr ⟨by rfl, rfl⟩) (by assumption) ?_; try simp only [Act.put, List.setIfInBounds_toArray, List.set_cons_zero, List.set_cons_succ]
            refine wpAnyH_take (i := 9) (oi := { dst := some 73, op := _, type := _, pos := _, after := _, guard := _ }) (v := undef) rfl (by kernel_rfl) (by kernel_rfl) (by kernel_rfl) (fun _ _ _ h => h) (Or.inr ⟨by rfl, rfl⟩) (by assumption) ?_; try simp only [Act.put, List.setIfInBounds_toArray, List.set_cons_zero, List.set_cons_succ]
            refine wpAnyH_take (i := 10) (oi := { dst := some 74, op := _, type := _, pos := _, after := _, guard := _ }) (v := undef) rfl (by kernel_rfl) (by kernel_rfl) (by kernel_rfl) (fun _ _ _ h => h) (Or.inr ⟨by rfl, rfl⟩) (by assumption) ?_; try simp only [Act.put, List.setIfInBounds_toArray, List.set_cons_zero, List.set_cons_succ]
            refine wpAnyH_take (i := 11) (oi := { dst := some 75, op := _, type := _, pos := _, after := _, guard := _ }) (v := undef) rfl (by kernel_rfl) (by kernel_rfl) (by kernel_rfl) (fun _ _ _ h => h) (Or.inr ⟨by rfl, rfl⟩) (by assumption) ?_; try simp only [Act.put, List.setIfInBounds_toArray, List.set_cons_zero, List.set_cons_succ]
            refine wpAnyH_take (i := 12) (oi := { dst := some 76, op := _, type := _, pos := _, after := _, guard := _ }) (v := undef) rfl (by kernel_rfl) (by kernel_rfl) (by kernel_rfl) (fun _ _ _ h => h) (Or.inr ⟨by rfl, rfl⟩) (by assumption) ?_; try simp only [Act.put, List.setIfInBounds_toArray, List.set_cons_zero, List.set_cons_succ]
            refine wpAnyH_take (i := 13) (oi := { dst := some 77, op := _, type := _, pos := _, after := _, guard := _ }) (v := undef) rfl (by kernel_rfl) (by kernel_rfl) (by kernel_rfl) (fun _ _ _ h => h) (Or.inr ⟨by rfl, rfl⟩) (by assumption) ?_; try simp only [Act.put, List.setIfInBounds_toArray, List.set_cons_zero, List.set_cons_succ]
            refine wpAnyH_take (i := 14) (oi := { dst := some 78, op := _, type := _, pos := _, after := _, guard := _ }) (v := undef) rfl (by kernel_rfl) (by kernel_rfl) (by kernel_rfl) (fun _ _ _ h => h) (Or.inr ⟨by rfl, rfl⟩) (by assumption) ?_; try simp only [Act.put, List.setIfInBounds_toArray, List.set_cons_zero, List.set_cons_succ]
            refine wpAnyH_take (i := 15) (oi := { dst := some 79, op := _, type := _, pos := _, after := _, guard := _ }) (v := undef) rfl (by kernel_rfl) (by kernel_rfl) (by kernel_rfl) (fun _ _ _ h => h) (Or.inr ⟨by rfl, rfl⟩) (by assumption) ?_; try simp only [Act.put, List.setIfInBounds_toArray, List.set_cons_zero, List.set_cons_succ]
            refine wpAnyH_take (i := 16) (oi := { dst := some 80, op := _, type := _, pos := _, after := _, guard := _ }) (v := undef) rfl (by kernel_rfl) (by kernel_rfl) (by kernel_rfl) (fun _ _ _ h => h) (Or.inr ⟨by rfl, rfl⟩) (by assumption) ?_; try simp only [Act.put, List.setIfInBounds_toArray, List.set_cons_zero, List.set_cons_succ]
            refine wpAnyH_take (i := 17) (oi := { dst := some 81, op := _, type := _, pos := _, after := _, guard := _ }) (v := undef) rfl (by kernel_rfl) (by kernel_rfl) (by kernel_rfl) (fun _ _ _ h => h) (Or.inr ⟨by rfl, rfl⟩) (by assumption) ?_; try simp only [Act.put, List.setIfInBounds_toArray, List.set_cons_zero, List.set_cons_succ]
            refine wpAnyH_take (i := 18) (oi := { dst := some 82, op := _, type := _, pos := _, after := _, guard := _ }) (v := .bool true) rfl (by kernel_rfl) (by kernel_rfl) (by kernel_rfl) (fun _ _ _ h => h) (Or.inl ⟨by rfl, by (intro w hSw; (try dsimp only at hSw); first | (go_simp; done) | (go_simp; with_reducible rfl) | (go_simp; omega) | (go_simp; simp [*]; done))⟩) (by assumption) ?_; try simp only [Act.put, List.setIfInBounds_toArray, List.set_cons_zero, List.set_cons_succ]
            refine wpAnyH_done (by kernel_rfl) ?_ _
            go_wp2_with fail
            go_ret
            exact ⟨(by first | rfl | (simp; done) | (simp [*]; done) | (rw [if_pos (by omega)]; first | rfl | (simp; done)) | (rw [if_neg (by omega)]; first | rfl | (simp; done)) | (simp; omega)), (by repeat (first | exact Below.refl _ _ | apply below_alloc | apply pw_below_drewN | apply below_drew1 | (refine Below.setCell ?_ (by first | (simp; done) | (simp; omega) | omega) _) | (refine below_then ?_ (by first | (simp; done) | (simp; omega) | omega) hb2) | exact hBw))⟩
        · obtain rfl : k = l.length := by omega
          by_cases h4 : st = 4
          · obtain rfl := HR.out.2.1 (fun k hk => hne.out k hk hk) (.inl h4)
            go_wp2_with fail
            go_ret
            exact ⟨(by first | rfl | (simp; done) | (simp [*]; done) | (rw [if_pos (by omega)]; first | rfl | (simp; done)) | (rw [if_neg (by omega)]; first | rfl | (simp; done)) | (simp; omega)), (by repeat (first | exact Below.refl _ _ | apply below_alloc | apply pw_below_drewN | apply below_drew1 | (refine Below.setCell ?_ (by first | (simp; done) | (simp; omega) | omega) _) | exact hBw))⟩
          · by_cases ht0 : tx.size = 0
            · obtain rfl := size0 ht0
              cases lg with
              | false =>
                obtain rfl := HR.out.2.1 (fun k hk => hne.out k hk hk) (.inr ⟨rfl, rfl⟩)
                go_wp2_with fail
                go_ret
                exact ⟨(by first | rfl | (simp; done) | (simp [*]; done) | (rw [if_pos (by omega)]; first | rfl | (simp; done)) | (rw [if_neg (by omega)]; first | rfl | (simp; done)) | (simp; omega)), (by repeat (first | exact Below.refl _ _ | apply below_alloc | apply pw_below_drewN | apply below_drew1 | (refine Below.setCell ?_ (by first | (simp; done) | (simp; omega) | omega) _) | exact hBw))⟩
              | true =>
                obtain rfl := HR.out.2.2 (by simp [h4])
                go_wp2_with fail
                go_ret
                exact ⟨(by first | rfl | (simp; done) | (simp [*]; done) | (rw [if_pos (by omega)]; first | rfl | (simp; done)) | (rw [if_neg (by omega)]; first | rfl | (simp; done)) | (simp; omega)), (by repeat (first | exact Below.refl _ _ | apply below_alloc | apply pw_below_drewN | apply below_drew1 | (refine Below.setCell ?_ (by first | (simp; done) | (simp; omega) | omega) _) | exact hBw))⟩
            · have hx := beq_empty_no ht0
              obtain rfl := HR.out.2.2 (by simp [h4, ht0])
              go_wp2_with fail
              go_ret
              exact ⟨(by first | rfl | (simp; done) | (simp [*]; done) | (rw [if_pos (by omega)]; first | rfl | (simp; done)) | (rw [if_neg (by omega)]; first | rfl | (simp; done)) | (simp; omega)), (by repeat (first | exact Below.refl _ _ | apply below_alloc | apply pw_below_drewN | apply below_drew1 | (refine Below.setCell ?_ (by first | (simp; done) | (simp; omega) | omega) _) | exact hBw))⟩
  · obtain rfl := hn (fun hh => hf hh.2.2.2.2.1)
    clear hq hn
    go_enter Tryd.func67, Tryd.ntmps67
    go_wp2_with ((go_at_call 52; first | (refine (in_yes _ _ _ _ (by omega) (by omega)).mono ?_; rintro e w' ⟨rfl, rfl⟩) | (refine (in_no _ _ _ _ (by omega)).mono ?_; rintro e w' ⟨rfl, rfl⟩)))
    refine (HC.out _).mono ?_
    rintro e w1 ⟨rfl, hb1⟩
    obtain ⟨hc_w1, hf_w1⟩ := bcell hb1
    have s_ := hb1.size
    (try simp at s_)
    (first | (have : w.heap.size < w1.heap.size := by omega) | skip)
    have : w.heap.size ≤ w1.heap.size := by omega
    clear s_
    have : w1.cell? ⟨w.heap.size, 0, none⟩ = some (.int .i64 st) := (by rw [hc_w1 _ _ (by first | (simp; done) | (simp; omega))]; first | (simp; done) | (simp [*]; done) | assumption | (simp [go_sem, *]; done)); have : w1.frozen? ⟨w.heap.size, 0, none⟩ = false := (by rw [hf_w1 _ _ (by first | (simp; done) | (simp; omega))]; first | (simp; done) | (simp [*]; done) | assumption | (simp [go_sem, *]; done)); have : w1.cell? ⟨w.heap.size, 1, none⟩ = some (.string fr.loc) := (by rw [hc_w1 _ _ (by first | (simp; done) | (simp; omega))]; first | (simp; done) | (simp [*]; done) | assumption | (simp [go_sem, *]; done)); have : w1.frozen? ⟨w.heap.size, 1, none⟩ = false := (by rw [hf_w1 _ _ (by first | (simp; done) | (simp; omega))]; first | (simp; done) | (simp [*]; done) | assumption | (simp [go_sem, *]; done)); have : w1.cell? ⟨w.heap.size, 2, none⟩ = some (.string fr.dom) := (by rw [hc_w1 _ _ (by first | (simp; done) | (simp; omega))]; first | (simp; done) | (simp [*]; done) | assumption | (simp [go_sem, *]; done)); have : w1.frozen? ⟨w.heap.size, 2, none⟩ = false := (by rw [hf_w1 _ _ (by first | (simp; done) | (simp; omega))]; first | (simp; done) | (simp [*]; done) | assumption | (simp [go_sem, *]; done)); have : w1.cell? ⟨w.heap.size, 3, none⟩ = some (.slice A l.length c) := (by rw [hc_w1 _ _ (by first | (simp; done) | (simp; omega))]; first | (simp; done) | (simp [*]; done) | assumption | (simp [go_sem, *]; done)); have : w1.frozen? ⟨w.heap.size, 3, none⟩ = false := (by rw [hf_w1 _ _ (by first | (simp; done) | (simp; omega))]; first | (simp; done) | (simp [*]; done) | assumption | (simp [go_sem, *]; done)); have : w1.cell? ⟨w.heap.size, 4, none⟩ = some (.string tx) := (by rw [hc_w1 _ _ (by first | (simp; done) | (simp; omega))]; first | (simp; done) | (simp [*]; done) | assumption | (simp [go_sem, *]; done)); have : w1.frozen? ⟨w.heap.size, 4, none⟩ = false := (by rw [hf_w1 _ _ (by first | (simp; done) | (simp; omega))]; first | (simp; done) | (simp [*]; done) | assumption | (simp [go_sem, *]; done)); have : w1.cell? ⟨w.heap.size, 5, none⟩ = some (.bool lg) := (by rw [hc_w1 _ _ (by first | (simp; done) | (simp; omega))]; first | (simp; done) | (simp [*]; done) | assumption | (simp [go_sem, *]; done)); have : w1.frozen? ⟨w.heap.size, 5, none⟩ = false := (by rw [hf_w1 _ _ (by first | (simp; done) | (simp; omega))]; first | (simp; done) | (simp [*]; done) | assumption | (simp [go_sem, *]; done))
    clear hc_w1 hf_w1
    go_wp2_with ((go_at_call 52; first | (refine (in_yes _ _ _ _ (by omega) (by omega)).mono ?_; rintro e w' ⟨rfl, rfl⟩) | (refine (in_no _ _ _ _ (by omega)).mono ?_; rintro e w' ⟨rfl, rfl⟩)))
    go_ret
    exact ⟨(by first | rfl | (simp; done) | (simp [*]; done) | (rw [if_pos (by omega)]; first | rfl | (simp; done)) | (rw [if_neg (by omega)]; first | rfl | (simp; done)) | (simp; omega)), (by repeat (first | exact Below.refl _ _ | apply below_alloc | apply pw_below_drewN | apply below_drew1 | (refine Below.setCell ?_ (by first | (simp; done) | (simp; omega) | omega) _) | (refine below_then ?_ (by first | (simp; done) | (simp; omega) | omega) hb1)))⟩
end Go.Proofs.YtijdghplfhfpaaaDoor.H

/- Lines: lmtp.Check and the reference's SessionFault, whole. -/
namespace Go.Proofs.YtijdghplfhfpaaaDoor.H
open Go.RowKit Go.Proofs.YtijdghplfhfpaaaDoorW.PrintWords Go.Proofs.YtijdghplfhfpaaaDoorW.PrintLast Go.Proofs.YtijdghplfhfpaaaDoor.U
set_option linter.unusedVariables false
set_option linter.unusedSimpArgs false
set_option maxHeartbeats 1000000 in
set_option maxRecDepth 100000 in
theorem lmtpCheck_calls (st : Int) (fr : AAddress) (A : Option Addr) (c : Nat) (l : List AAddress) (tx : ByteArray) (lg : Bool) (w : World) (hr : Kd.C kAAddress w A l.length l) (hlc : l.length ≤ c) (m : Int) (ha : fr.loc.size ≤ 1048576) (hb : fr.dom.size ≤ 1048576) (hs : ∀ x ∈ l, x.loc.size ≤ 1048576 ∧ x.dom.size ≤ 1048576) (hm : w.cell? ⟨6, 0, none⟩ = some (.int .i64 m)) (hg : 6 < w.heap.size) :
    Calls Tryd.prog 63 #[.agg #[.int .i64 st, .string fr.loc, .string fr.dom, .slice A l.length c, .string tx, .bool lg]] w fun e w' => e = .returned (.int .i64 (sessFault st fr l tx lg)) ∧ Below w.heap.size w w' := by
  by_cases hbad : st < 0 ∨ 5 < st ∨ 5 < l.length ∨ 2000 < tx.size
  · rw [sess_no (fun h => by obtain ⟨h1, h2, h3, h4, _⟩ := h; omega)]
    exact lmtpCheck_bad st fr A c l tx lg w hbad
  · have hl : l.length ≤ 5 := by omega
    have ht : tx.size ≤ 2000 := by omega
    rcases (by omega : (st = 0 ∨ st = 1 ∨ st = 5) ∨ st = 2 ∨ st = 3 ∨ st = 4) with h | rfl | rfl | rfl
    · exact lmtpCheck_015 st h fr A c l tx lg w hl ht
    · exact lmtpCheck_2 fr A c l tx lg w hl ht m ha hb hm hg
    · exact lmtpCheck_3 fr A c l tx lg w hr hlc hl ht m ha hb hs hm hg
    · exact lmtpCheck_4 fr A c l tx lg w hr hlc hl ht m ha hb hs hm hg
set_option maxHeartbeats 1000000 in
set_option maxRecDepth 100000 in
theorem refSession_calls (st : Int) (fr : AAddress) (A : Option Addr) (c : Nat) (l : List AAddress) (tx : ByteArray) (lg : Bool) (w : World) (hr : Kd.C kAAddress w A l.length l) (hlc : l.length ≤ c) (ha : fr.loc.size ≤ 1048576) (hb : fr.dom.size ≤ 1048576) (hs : ∀ x ∈ l, x.loc.size ≤ 1048576 ∧ x.dom.size ≤ 1048576) :
    Calls Tryd.prog 67 #[.agg #[.int .i64 st, .string fr.loc, .string fr.dom, .slice A l.length c, .string tx, .bool lg]] w fun e w' => e = .returned (.int .i64 (sessFault st fr l tx lg)) ∧ Below w.heap.size w w' := by
  by_cases hbad : st < 0 ∨ 5 < st ∨ 5 < l.length ∨ 2000 < tx.size
  · rw [sess_no (fun h => by obtain ⟨h1, h2, h3, h4, _⟩ := h; omega)]
    exact refSession_bad st fr A c l tx lg w hbad
  · have hl : l.length ≤ 5 := by omega
    have ht : tx.size ≤ 2000 := by omega
    by_cases h2 : 2 ≤ st ∧ st ≤ 4
    · by_cases h3 : st = 2
      · exact refSession_two st h3 fr A c l tx lg w hl ht ha hb
      · exact refSession_goes st (by omega) h2.2 fr A c l tx lg w hr hlc hl ht ha hb hs
    · exact refSession_none st (by omega) (by omega) h2 fr A c l tx lg w hl ht
end Go.Proofs.YtijdghplfhfpaaaDoor.H

/- Lines: sessions and letters beside one another; a line of a session, as the program does it. -/
namespace Go.Proofs.YtijdghplfhfpaaaDoor.H
open Go.RowKit Go.Proofs.YtijdghplfhfpaaaDoorW.PrintWords Go.Proofs.YtijdghplfhfpaaaDoorW.PrintLast Go.Proofs.YtijdghplfhfpaaaDoor.U
set_option linter.unusedVariables false
set_option linter.unusedSimpArgs false
attribute [local go_sem high] eqAAddress eqbAAddress_self
def eqbALetter (x y : ALetter) : Bool := eqbAAddress x.from_ y.from_ && (eqbAAddress x.to_ y.to_ && (x.text.toList == y.text.toList))
theorem eqbALetter_iff {x y : ALetter} : eqbALetter x y = true ↔ x = y := by
  cases x; cases y
  simp only [eqbALetter, Bool.and_eq_true, beq_iff_eq, ByteArray.toList_eq, bytes_iff, eqbAAddress_iff, eqbAAddress_iff, ALetter.mk.injEq]
theorem eqbALetter_self (x : ALetter) : eqbALetter x x = true := eqbALetter_iff.2 rfl
theorem eqALetter (d : Nat) (w : World) (x_from__loc : ByteArray) (x_from__dom : ByteArray) (x_to__loc : ByteArray) (x_to__dom : ByteArray) (x_text : ByteArray) (y_from__loc : ByteArray) (y_from__dom : ByteArray) (y_to__loc : ByteArray) (y_to__dom : ByteArray) (y_text : ByteArray) :
    (Op.equalIn (d + 3) 101 (.agg #[.string x_from__loc, .string x_from__dom, .string x_to__loc, .string x_to__dom, .string x_text]) (.agg #[.string y_from__loc, .string y_from__dom, .string y_to__loc, .string y_to__dom, .string y_text])).run Tryd.prog w = .ok (eqbALetter ⟨⟨x_from__loc, x_from__dom⟩, ⟨x_to__loc, x_to__dom⟩, x_text⟩ ⟨⟨y_from__loc, y_from__dom⟩, ⟨y_to__loc, y_to__dom⟩, y_text⟩) w := by
  refine eqA_of Tryd.underlying101 (by kernel_rfl) ?_
  refine eqf_cons (by rfl) (by go_simp; rfl) (by go_simp; rfl) (by exact eqAAddress d _ ..) ?_
  refine eqf_cons (by rfl) (by go_simp; rfl) (by go_simp; rfl) (by exact eqAAddress d _ ..) ?_
  exact eqf_last (by rfl) (by go_simp; rfl) (by go_simp; rfl) (by go_simp)
theorem rowALetter : RowT Tryd.prog kALetter 55 101 80 (.agg #[.string ⟨#[]⟩, .string ⟨#[]⟩, .string ⟨#[]⟩, .string ⟨#[]⟩, .string ⟨#[]⟩]) :=
  ⟨Tryd.underlying55, by kernel_rfl, rfl, by decide, by decide, flat_kd⟩
attribute [local go_sem high] eqALetter eqbALetter_self
set_option maxHeartbeats 1000000 in
set_option maxRecDepth 100000 in
theorem sameLetters_calls (A : Option Addr) (c : Nat) (A2 : Option Addr) (c2 : Nat) (l : List ALetter) (w : World) (hr : Kd.C kALetter w A l.length l) (hr2 : Kd.C kALetter w A2 l.length l) :
    Calls Tryd.prog 33 #[.slice A l.length c, .slice A2 l.length c2] w fun e w' => e = .returned (.bool true) ∧ Below w.heap.size w w' := by
  have h63 := hr.2.1
  go_enter Tryd.func33, Tryd.ntmps33
  go_wp2
  go_loopw [5] (fun i wr => ∃ k : Nat, k ≤ l.length ∧ i = .int .i64 k ∧ ∃ q, wr = w.drewN q) (fun i _ => l.length - (intOf i).toNat)
  case atStart => exact ⟨0, Nat.zero_le _, rfl, 0, rfl⟩
  case round =>
    obtain ⟨k, hk, rfl, q, rfl⟩ := hrel
    by_cases hlt : k < l.length
    · obtain ⟨ad, e1, hx0, hxj⟩ := flat_at hr k hlt
      obtain ⟨ad2, e2, hy0, hyj⟩ := flat_at hr2 k hlt
      subst e1 e2
      have q0 := hx0 _ rfl; have q1 := hxj 1 _ (by decide) rfl; have q2 := hxj 2 _ (by decide) rfl; have q3 := hxj 3 _ (by decide) rfl; have q4 := hxj 4 _ (by decide) rfl
      have r0 := hy0 _ rfl; have r1 := hyj 1 _ (by decide) rfl; have r2 := hyj 2 _ (by decide) rfl; have r3 := hyj 3 _ (by decide) rfl; have r4 := hyj 4 _ (by decide) rfl
      clear hx0 hxj hy0 hyj
      have i0 : (0 : Int) ≤ (k : Int) := by omega
      have i1 : (k : Int) < (l.length : Int) := by omega
      go_wp2
      go_quiet (fail)
      go_wp2
      go_roundw
      case rel => exact ⟨k + 1, by omega, by go_num, _, rfl⟩
      case measure => simp [intOf]; omega
    · obtain rfl : k = l.length := by omega
      go_wp2
      go_ret
      exact ⟨rfl, by first | exact Below.refl _ _ | exact pw_below_drewN (Below.refl _ _) _⟩
attribute [-go_sem] eqALetter eqbALetter_self
set_option maxHeartbeats 1000000 in
set_option maxRecDepth 100000 in
theorem sameSession_calls (s : Ses) (A : Option Addr) (c : Nat) (A2 : Option Addr) (c2 : Nat) (w : World) (hr : Kd.C kAAddress w A s.to_.length s.to_) (hr2 : Kd.C kAAddress w A2 s.to_.length s.to_) :
    Calls Tryd.prog 32 #[SesV A c s, SesV A2 c2 s] w fun e w' => e = .returned (.bool true) ∧ Below w.heap.size w w' := by
  obtain ⟨st, fr, to_, tx, lg⟩ := s
  simp only [SesV] at hr hr2 ⊢
  have hP : Blk ((w.alloc (.cells #[.int .i64 st, .string fr.loc, .string fr.dom, .slice A to_.length c, .string tx, .bool lg] 52)).alloc (.cells #[.int .i64 st, .string fr.loc, .string fr.dom, .slice A2 to_.length c2, .string tx, .bool lg] 52)) w.heap.size [.int .i64 st, .string fr.loc, .string fr.dom, .slice A to_.length c, .string tx, .bool lg] := (Blk.made w _ _).alloc _
  have hQ : Blk ((w.alloc (.cells #[.int .i64 st, .string fr.loc, .string fr.dom, .slice A to_.length c, .string tx, .bool lg] 52)).alloc (.cells #[.int .i64 st, .string fr.loc, .string fr.dom, .slice A2 to_.length c2, .string tx, .bool lg] 52)) (w.heap.size + 1) [.int .i64 st, .string fr.loc, .string fr.dom, .slice A2 to_.length c2, .string tx, .bool lg] := Blk.made_at _ _ _ (by simp)
  have hB : Below w.heap.size w ((w.alloc (.cells #[.int .i64 st, .string fr.loc, .string fr.dom, .slice A to_.length c, .string tx, .bool lg] 52)).alloc (.cells #[.int .i64 st, .string fr.loc, .string fr.dom, .slice A2 to_.length c2, .string tx, .bool lg] 52)) := (by repeat (first | exact Below.refl _ _ | apply below_alloc | apply pw_below_drewN | apply below_drew1 | (refine Below.setCell ?_ (by first | (simp; done) | (simp; omega) | omega) _) ))
  have HS := Lib.hid (fun w hr hr2 => sameAddrs_calls A c A2 c2 to_ w hr hr2)
  have p0 := hP.at 0 _ rfl
  have p1 := hP.at 1 _ rfl
  have p2 := hP.at 2 _ rfl
  have p3 := hP.at 3 _ rfl
  have q0 := hQ.at 0 _ rfl
  have q1 := hQ.at 1 _ rfl
  have q2 := hQ.at 2 _ rfl
  have q3 := hQ.at 3 _ rfl
  go_enter Tryd.func32, Tryd.ntmps32
  go_wp2_with fail
  refine (HS.out _ (Kd.C_below hr hB) (Kd.C_below hr2 hB)).mono ?_
  rintro e w1 ⟨rfl, hb1⟩
  have hP1 := hP.below hb1 hP.lt
  have hQ1 := hQ.below hb1 hQ.lt
  clear p0 p1 p2 p3 q0 q1 q2 q3 hP hQ
  have p4 := hP1.at 4 _ rfl
  have p5 := hP1.at 5 _ rfl
  have q4 := hQ1.at 4 _ rfl
  have q5 := hQ1.at 5 _ rfl
  have hbf : Below w.heap.size w w1 := hB.trans (hb1.mono hB.size)
  go_wp2_with fail
  go_ret
  exact ⟨(by first | rfl | (simp; done) | (simp [*]; done) | (rw [if_pos (by omega)]; first | rfl | (simp; done)) | (rw [if_neg (by omega)]; first | rfl | (simp; done)) | (simp; omega)), hbf⟩
end Go.Proofs.YtijdghplfhfpaaaDoor.H

/- Lines: a line of a session, as the program does it. -/
namespace Go.Proofs.YtijdghplfhfpaaaDoor.H
open Go.RowKit Go.Proofs.YtijdghplfhfpaaaDoorW.PrintWords Go.Proofs.YtijdghplfhfpaaaDoorW.PrintLast Go.Proofs.YtijdghplfhfpaaaDoor.U
set_option linter.unusedVariables false
set_option linter.unusedSimpArgs false
/-- A list that lies above block b. -/
def ToX {α : Type} (d : Kd α) (w : World) (b : Nat) (A : Option Addr) (l : List α) : Prop := ∀ w', Above b w w' → Kd.C d w' A l.length l
section
variable {α : Type} {d : Kd α} {w w1 : World} {b b' c j : Nat} {A : Option Addr} {l : List α}
theorem toX_nil (d : Kd α) (w : World) (b : Nat) : ToX d w b none [] := fun _ _ => C_none _ _
theorem toX_of {T base n cap : Nat} (h : Kd.R d T w base (fun _ => True) (.slice A n cap) l) (hb : b < base) : ToX d w b A l := by
  intro w' hg
  obtain ⟨rfl, _, h3⟩ := Kd.R_reads' (Kd.R_step (Kd.R_bound h) (w1 := w') (fun k hk hl => hg k (by have := hk.2.1; omega) hl))
  exact h3
theorem ToX.now (h : ToX d w b A l) : Kd.C d w A l.length l := h w (fun _ _ _ => rfl)
theorem ToX.weak (h : ToX d w b A l) (hb : b' ≤ b) : ToX d w b' A l := fun w' h' => h w' (fun i hi hl => h' i (by omega) hl)
theorem ToX.set (h : ToX d w b A l) (hc : c ≤ b) (v : Value) : ToX d (w.setCell ⟨c, j, none⟩ v) b A l := fun w2 h2 => h w2 (above_trans (above_set hc v) (by simp) h2)
theorem ToX.below (h : ToX d w b A l) (hb : Below w.heap.size w w1) : ToX d w1 b A l := fun w2 h2 => h w2 (above_trans (fun i _ hl => hb.block i hl) hb.size h2)
theorem toX_six {v0 v1 v2 v3 v4 v5 : Value} (h : ToX d w1 b' A l) (hb : b ≤ b') :
    ToX d ((((((w1.setCell ⟨b, 0, none⟩ v0).setCell ⟨b, 1, none⟩ v1).setCell ⟨b, 2, none⟩ v2).setCell ⟨b, 3, none⟩ v3).setCell ⟨b, 4, none⟩ v4).setCell ⟨b, 5, none⟩ v5) b' A l :=
  (((((h.set hb v0).set hb v1).set hb v2).set hb v3).set hb v4).set hb v5
theorem toX_sixA {v0 v1 v2 v3 v4 v5 : Value} {o : Obj} (h : ToX d w1 b' A l) (hb : b ≤ b') :
    ToX d (((((((w1.setCell ⟨b, 0, none⟩ v0).setCell ⟨b, 1, none⟩ v1).setCell ⟨b, 2, none⟩ v2).setCell ⟨b, 3, none⟩ v3).setCell ⟨b, 4, none⟩ v4).setCell ⟨b, 5, none⟩ v5).alloc o) b' A l :=
  (toX_six h hb).below ((Below.refl _ _).alloc (Nat.le_refl _) o)
end
/-- How a session goes on, the code, the letters, what is wrong. -/
def PostLine (w : World) (r : Ses × Int × List ALetter × Int) (e : Ending) (w' : World) : Prop :=
  ∃ A c A2 c2, e = .returned (.tuple #[SesV A c r.1, .int .i64 r.2.1, .slice A2 r.2.2.1.length c2, .int .i64 r.2.2.2]) ∧ r.1.to_.length ≤ c ∧ ToX kAAddress w' w.heap.size A r.1.to_ ∧ ToX kALetter w' w.heap.size A2 r.2.2.1 ∧ Below w.heap.size w w'
theorem postLine_ses {w w' : World} {A : Option Addr} {c : Nat} {st : Int} {fr : AAddress} {to_ : List AAddress} {tx : ByteArray} {lg : Bool} {k f : Int} {e : Ending}
    (he : e = .returned (.tuple #[.agg #[.int .i64 st, .string fr.loc, .string fr.dom, .slice A to_.length c, .string tx, .bool lg], .int .i64 k, .slice none 0 0, .int .i64 f])) (hc : to_.length ≤ c) (hr : ToX kAAddress w' w.heap.size A to_) (hb : Below w.heap.size w w') : PostLine w (⟨st, fr, to_, tx, lg⟩, k, [], f) e w' :=
  ⟨A, c, none, 0, he, hc, hr, toX_nil _ _ _, hb⟩
theorem below_grown {w0 w w1 : World} {b : Nat} (h : Below w0.heap.size w0 w) (hg : w.grownBy w1 (some b)) (hb : w0.heap.size ≤ b) : Below w0.heap.size w0 w1 :=
  h.grown hg h.size (fun z hz => by have := Option.some.inj hz; omega)
set_option maxHeartbeats 1000000 in
set_option maxRecDepth 100000 in
theorem line_bad (A : Option Addr) (c : Nat) (A0 : Option Addr) (c0 : Nat) (kn : List ByteArray) (line : ByteArray) (m : Int) (w : World) (st : Int) (fr : AAddress) (to_ : List AAddress) (tx : ByteArray) (lg : Bool) (hr : Kd.C kAAddress w A to_.length to_) (hc : to_.length ≤ c) (ha : fr.loc.size ≤ 1048576) (hb : fr.dom.size ≤ 1048576) (hs : ∀ x ∈ to_, x.loc.size ≤ 1048576 ∧ x.dom.size ≤ 1048576) (hm : w.cell? ⟨6, 0, none⟩ = some (.int .i64 m)) (hg : 6 < w.heap.size) (hbad : ¬ sessMay st fr to_ tx lg) : Calls Tryd.prog 29 #[.agg #[.int .i64 st, .string fr.loc, .string fr.dom, .slice A to_.length c, .string tx, .bool lg], .slice A0 kn.length c0, .string line] w (PostLine w (noSes 0, 0, [], 11)) := by
  have HC := Lib.hid (fun w hr hm hg => lmtpCheck_calls st fr A c to_ tx lg w hr hc m ha hb hs hm hg)
  rw [sess_no hbad] at HC
  clear hbad hs
  replace hr := Lib.hid hr
  replace hc := Lib.hid hc
  have hK' : Blk ((w.alloc (.cells #[.int .i64 st, .string fr.loc, .string fr.dom, .slice A to_.length c, .string tx, .bool lg] 52)).alloc (.cells #[.int .i64 0, .string ⟨#[]⟩, .string ⟨#[]⟩, .slice none 0 0, .string ⟨#[]⟩, .bool false] 52)) w.heap.size [.int .i64 st, .string fr.loc, .string fr.dom, .slice A to_.length c, .string tx, .bool lg] := (Blk.made w _ _).alloc _
  have hZ' : Blk ((w.alloc (.cells #[.int .i64 st, .string fr.loc, .string fr.dom, .slice A to_.length c, .string tx, .bool lg] 52)).alloc (.cells #[.int .i64 0, .string ⟨#[]⟩, .string ⟨#[]⟩, .slice none 0 0, .string ⟨#[]⟩, .bool false] 52)) (w.heap.size + 1) [.int .i64 0, .string ⟨#[]⟩, .string ⟨#[]⟩, .slice none 0 0, .string ⟨#[]⟩, .bool false] := Blk.made_at _ _ _ (by simp)
  have hb0 : Below w.heap.size w ((w.alloc (.cells #[.int .i64 st, .string fr.loc, .string fr.dom, .slice A to_.length c, .string tx, .bool lg] 52)).alloc (.cells #[.int .i64 0, .string ⟨#[]⟩, .string ⟨#[]⟩, .slice none 0 0, .string ⟨#[]⟩, .bool false] 52)) := (by repeat (first | exact Below.refl _ _ | apply below_alloc | apply pw_below_drewN | apply below_drew1 | (refine Below.setCell ?_ (by first | (simp; done) | (simp; omega) | omega) _) ))
  have k0 := hK'.at 0 _ rfl
  have k1 := hK'.at 1 _ rfl
  have k2 := hK'.at 2 _ rfl
  have k3 := hK'.at 3 _ rfl
  have k4 := hK'.at 4 _ rfl
  have k5 := hK'.at 5 _ rfl
  go_enter Tryd.func29, Tryd.ntmps29
  go_wp2_with fail
  refine (HC.out _ (Kd.C_below hr.out hb0) (cell_below hb0 hm hg) (by simp; omega)).mono ?_
  rintro e w1 ⟨rfl, hb1⟩
  have hB1 : Below w.heap.size w w1 := hb0.trans (hb1.mono hb0.size)
  have hK1 := hK'.below hb1 hK'.lt
  have hZ1 := hZ'.below hb1 hZ'.lt
  clear hK' hZ' k0 k1 k2 k3 k4 k5 hb1 hb0
  have z0 := hZ1.at 0 _ rfl
  have z1 := hZ1.at 1 _ rfl
  have z2 := hZ1.at 2 _ rfl
  have z3 := hZ1.at 3 _ rfl
  have z4 := hZ1.at 4 _ rfl
  have z5 := hZ1.at 5 _ rfl
  have f0 := hZ1.free 0 _ rfl
  have f1 := hZ1.free 1 _ rfl
  have f2 := hZ1.free 2 _ rfl
  have f3 := hZ1.free 3 _ rfl
  have f4 := hZ1.free 4 _ rfl
  have f5 := hZ1.free 5 _ rfl
  have fl := hZ1.lt
  go_wp2_with fail
  refine bodyPost_ret (v := .tuple #[.agg #[.int .i64 0, .string ⟨#[]⟩, .string ⟨#[]⟩, .slice none 0 0, .string ⟨#[]⟩, .bool false], .int .i64 0, .slice none 0 0, .int .i64 11]) (by simp [results, Tryd.results29, go_sem, *]) rfl (postLine_ses (fr := ⟨⟨#[]⟩, ⟨#[]⟩⟩) (to_ := []) rfl (Nat.le_refl _) (toX_nil _ _ _) (below_six hB1 (Nat.le_succ _)))
set_option maxHeartbeats 1000000 in
set_option maxRecDepth 100000 in
theorem line_over (A : Option Addr) (c : Nat) (A0 : Option Addr) (c0 : Nat) (kn : List ByteArray) (line : ByteArray) (m : Int) (w : World) (st : Int) (fr : AAddress) (to_ : List AAddress) (tx : ByteArray) (lg : Bool) (hr : Kd.C kAAddress w A to_.length to_) (hc : to_.length ≤ c) (ha : fr.loc.size ≤ 1048576) (hb : fr.dom.size ≤ 1048576) (hs : ∀ x ∈ to_, x.loc.size ≤ 1048576 ∧ x.dom.size ≤ 1048576) (hm : w.cell? ⟨6, 0, none⟩ = some (.int .i64 m)) (hg : 6 < w.heap.size) (hok : sessMay st fr to_ tx lg) (h5 : st = 5) : Calls Tryd.prog 29 #[.agg #[.int .i64 st, .string fr.loc, .string fr.dom, .slice A to_.length c, .string tx, .bool lg], .slice A0 kn.length c0, .string line] w (PostLine w (⟨st, fr, to_, tx, lg⟩, 0, [], 0)) := by
  have HC := Lib.hid (fun w hr hm hg => lmtpCheck_calls st fr A c to_ tx lg w hr hc m ha hb hs hm hg)
  rw [sess_yes hok] at HC
  have hlen := hok.2.2.1
  have HD := Lib.hid (fun w hr => cloneAddrs_calls A c to_ w hr (by omega))
  clear hok hs hlen
  have i5 : (st == 5) = true := by rw [h5]; rfl
  clear h5
  replace hr := Lib.hid hr
  replace hc := Lib.hid hc
  skip
  have hK' : Blk ((w.alloc (.cells #[.int .i64 st, .string fr.loc, .string fr.dom, .slice A to_.length c, .string tx, .bool lg] 52)).alloc (.cells #[.int .i64 0, .string ⟨#[]⟩, .string ⟨#[]⟩, .slice none 0 0, .string ⟨#[]⟩, .bool false] 52)) w.heap.size [.int .i64 st, .string fr.loc, .string fr.dom, .slice A to_.length c, .string tx, .bool lg] := (Blk.made w _ _).alloc _
  have hZ' : Blk ((w.alloc (.cells #[.int .i64 st, .string fr.loc, .string fr.dom, .slice A to_.length c, .string tx, .bool lg] 52)).alloc (.cells #[.int .i64 0, .string ⟨#[]⟩, .string ⟨#[]⟩, .slice none 0 0, .string ⟨#[]⟩, .bool false] 52)) (w.heap.size + 1) [.int .i64 0, .string ⟨#[]⟩, .string ⟨#[]⟩, .slice none 0 0, .string ⟨#[]⟩, .bool false] := Blk.made_at _ _ _ (by simp)
  have hb0 : Below w.heap.size w ((w.alloc (.cells #[.int .i64 st, .string fr.loc, .string fr.dom, .slice A to_.length c, .string tx, .bool lg] 52)).alloc (.cells #[.int .i64 0, .string ⟨#[]⟩, .string ⟨#[]⟩, .slice none 0 0, .string ⟨#[]⟩, .bool false] 52)) := (by repeat (first | exact Below.refl _ _ | apply below_alloc | apply pw_below_drewN | apply below_drew1 | (refine Below.setCell ?_ (by first | (simp; done) | (simp; omega) | omega) _) ))
  have k0 := hK'.at 0 _ rfl
  have k1 := hK'.at 1 _ rfl
  have k2 := hK'.at 2 _ rfl
  have k3 := hK'.at 3 _ rfl
  have k4 := hK'.at 4 _ rfl
  have k5 := hK'.at 5 _ rfl
  go_enter Tryd.func29, Tryd.ntmps29
  go_wp2_with fail
  refine (HC.out _ (Kd.C_below hr.out hb0) (cell_below hb0 hm hg) (by simp; omega)).mono ?_
  rintro e w1 ⟨rfl, hb1⟩
  have hB1 : Below w.heap.size w w1 := hb0.trans (hb1.mono hb0.size)
  have hK1 := hK'.below hb1 hK'.lt
  have hZ1 := hZ'.below hb1 hZ'.lt
  clear hK' hZ' k0 k1 k2 k3 k4 k5 hb1 hb0
  have k0 := hK1.at 0 _ rfl
  have k1 := hK1.at 1 _ rfl
  have k2 := hK1.at 2 _ rfl
  have k3 := hK1.at 3 _ rfl
  have k4 := hK1.at 4 _ rfl
  have k5 := hK1.at 5 _ rfl
  have kl := hK1.lt
  go_wp2_with fail
  refine (HD.out _ (Kd.C_below hr.out (hB1.alloc hB1.size _))).mono ?_
  rintro e w2 ⟨v2, rfl, hR2, hb2⟩
  obtain ⟨A5, c5, rfl⟩ := Kd.R_slice hR2
  obtain ⟨b, hbe⟩ : ∃ b, b = w1.heap.size := ⟨_, rfl⟩
  have hP2 : Blk w2 b [.int .i64 st, .string fr.loc, .string fr.dom, .slice A to_.length c, .string tx, .bool lg] := by rw [hbe]; exact (Blk.made w1 _ _).below hb2 (by simp)
  have hz12 : b < w2.heap.size := hP2.lt
  have hKZ : w.heap.size + 1 < b := by rw [hbe]; exact hZ1.lt
  have hB2 : Below w.heap.size w w2 := (hB1.alloc hB1.size _).trans (hb2.mono (hB1.alloc hB1.size _).size)
  have hK2 := (hK1.alloc (.cells #[.int .i64 st, .string fr.loc, .string fr.dom, .slice A to_.length c, .string tx, .bool lg] 96)).below hb2 (by simp; omega)
  have hZ2 := (hZ1.alloc (.cells #[.int .i64 st, .string fr.loc, .string fr.dom, .slice A to_.length c, .string tx, .bool lg] 96)).below hb2 (by simp; omega)
  have hR2b : Kd.R kAAddress 49 w2 (b + 1) (fun _ => True) (.slice A5 to_.length c5) to_ := Kd.R_lower hR2 (by rw [hbe]; simp)
  rw [← hbe]
  clear k0 k1 k2 k3 k4 k5 kl hb2 hR2 hK1 hZ1
  replace hbe := Lib.hid hbe
  have hc5 : to_.length ≤ c5 := (Kd.R_reads' hR2b).2.1
  replace hc5 := Lib.hid hc5
  have hS2 : SesAt (w2.setCell ⟨b, 3, none⟩ (.slice A5 to_.length c5)) b ⟨st, fr, to_, tx, lg⟩ := ⟨A5, c5, hP2.set 3 _ (by simp), hc5.out, toR_of (R_elder hR2b (show b < b + 1 by omega) _) (by omega)⟩
  have k0 := hK2.at 0 _ rfl
  have k3 := hK2.at 3 _ rfl
  have kl := hK2.lt
  have b3 := hP2.at 3 _ rfl
  have g3 := hP2.free 3 _ rfl
  have nb0 : ¬ w.heap.size = b := by omega
  have nb1 : ¬ w.heap.size + 1 = b := by omega
  have nb2 : ¬ b = w.heap.size := by omega
  have nb3 : ¬ b = w.heap.size + 1 := by omega
  have z0 := (hZ2).at 0 _ rfl
  have z1 := (hZ2).at 1 _ rfl
  have z2 := (hZ2).at 2 _ rfl
  have z3 := (hZ2).at 3 _ rfl
  have z4 := (hZ2).at 4 _ rfl
  have z5 := (hZ2).at 5 _ rfl
  have f0 := (hZ2).free 0 _ rfl
  have f1 := (hZ2).free 1 _ rfl
  have f2 := (hZ2).free 2 _ rfl
  have f3 := (hZ2).free 3 _ rfl
  have f4 := (hZ2).free 4 _ rfl
  have f5 := (hZ2).free 5 _ rfl
  have fl := (hZ2).lt
  have b0 := hP2.at 0 _ rfl
  have b1 := hP2.at 1 _ rfl
  have b2 := hP2.at 2 _ rfl
  have b4 := hP2.at 4 _ rfl
  have b5 := hP2.at 5 _ rfl
  have hT2 := toR_of hR2b (Nat.lt_succ_self b)
  have hB3 : Below w.heap.size w (w2.setCell ⟨b, 3, none⟩ (.slice A5 to_.length c5)) := Below.setCell hB2 (by show w.heap.size ≤ b; omega) _
  go_wp2_with fail
  refine bodyPost_ret (v := .tuple #[.agg #[.int .i64 st, .string fr.loc, .string fr.dom, .slice A5 to_.length c5, .string tx, .bool lg], .int .i64 0, .slice none 0 0, .int .i64 0]) (by simp [results, Tryd.results29, go_sem, *]) rfl (postLine_ses rfl hc5.out ((toX_six (d := kAAddress) (hT2.set (Nat.le_refl _) _) (by omega)).weak (by omega)) (below_six hB3 (Nat.le_succ _)))
set_option maxHeartbeats 1000000 in
set_option maxRecDepth 100000 in
theorem line_cmd (A : Option Addr) (c : Nat) (A0 : Option Addr) (c0 : Nat) (kn : List ByteArray) (line : ByteArray) (m : Int) (w : World) (st : Int) (fr : AAddress) (to_ : List AAddress) (tx : ByteArray) (lg : Bool) (hr : Kd.C kAAddress w A to_.length to_) (hc : to_.length ≤ c) (ha : fr.loc.size ≤ 1048576) (hb : fr.dom.size ≤ 1048576) (hs : ∀ x ∈ to_, x.loc.size ≤ 1048576 ∧ x.dom.size ≤ 1048576) (hm : w.cell? ⟨6, 0, none⟩ = some (.int .i64 m)) (hg : 6 < w.heap.size) (hl : line.size ≤ 1048576) (hkn : Kd.C Kd.string w A0 kn.length kn) (hok : sessMay st fr to_ tx lg) (h5 : ¬ st = 5) (h4 : ¬ st = 4) : Calls Tryd.prog 29 #[.agg #[.int .i64 st, .string fr.loc, .string fr.dom, .slice A to_.length c, .string tx, .bool lg], .slice A0 kn.length c0, .string line] w (PostLine w ((cmdV ⟨st, fr, to_, tx, lg⟩ kn line).1, (cmdV ⟨st, fr, to_, tx, lg⟩ kn line).2, [], 0)) := by
  have HC := Lib.hid (fun w hr hm hg => lmtpCheck_calls st fr A c to_ tx lg w hr hc m ha hb hs hm hg)
  rw [sess_yes hok] at HC
  have hlen := hok.2.2.1
  have HD := Lib.hid (fun w hr => cloneAddrs_calls A c to_ w hr (by omega))
  have HX := Lib.hid (fun b w hs hkn hm hg => command_calls b ⟨st, fr, to_, tx, lg⟩ A0 c0 kn line m w hs hlen hl hkn hm hg)
  generalize cmdV ⟨st, fr, to_, tx, lg⟩ kn line = r at *
  obtain ⟨⟨st2, fr2, to2, tx2, lg2⟩, code⟩ := r
  clear hok hs hlen
  have i5 : (st == 5) = false := beq_eq_false_iff_ne.mpr h5
  have i4 : (st != 4) = true := bne_iff_ne.mpr h4
  clear h5 h4
  replace hr := Lib.hid hr
  replace hc := Lib.hid hc
  replace hkn := Lib.hid hkn
  skip
  have hK' : Blk ((w.alloc (.cells #[.int .i64 st, .string fr.loc, .string fr.dom, .slice A to_.length c, .string tx, .bool lg] 52)).alloc (.cells #[.int .i64 0, .string ⟨#[]⟩, .string ⟨#[]⟩, .slice none 0 0, .string ⟨#[]⟩, .bool false] 52)) w.heap.size [.int .i64 st, .string fr.loc, .string fr.dom, .slice A to_.length c, .string tx, .bool lg] := (Blk.made w _ _).alloc _
  have hZ' : Blk ((w.alloc (.cells #[.int .i64 st, .string fr.loc, .string fr.dom, .slice A to_.length c, .string tx, .bool lg] 52)).alloc (.cells #[.int .i64 0, .string ⟨#[]⟩, .string ⟨#[]⟩, .slice none 0 0, .string ⟨#[]⟩, .bool false] 52)) (w.heap.size + 1) [.int .i64 0, .string ⟨#[]⟩, .string ⟨#[]⟩, .slice none 0 0, .string ⟨#[]⟩, .bool false] := Blk.made_at _ _ _ (by simp)
  have hb0 : Below w.heap.size w ((w.alloc (.cells #[.int .i64 st, .string fr.loc, .string fr.dom, .slice A to_.length c, .string tx, .bool lg] 52)).alloc (.cells #[.int .i64 0, .string ⟨#[]⟩, .string ⟨#[]⟩, .slice none 0 0, .string ⟨#[]⟩, .bool false] 52)) := (by repeat (first | exact Below.refl _ _ | apply below_alloc | apply pw_below_drewN | apply below_drew1 | (refine Below.setCell ?_ (by first | (simp; done) | (simp; omega) | omega) _) ))
  have k0 := hK'.at 0 _ rfl
  have k1 := hK'.at 1 _ rfl
  have k2 := hK'.at 2 _ rfl
  have k3 := hK'.at 3 _ rfl
  have k4 := hK'.at 4 _ rfl
  have k5 := hK'.at 5 _ rfl
  go_enter Tryd.func29, Tryd.ntmps29
  go_wp2_with fail
  refine (HC.out _ (Kd.C_below hr.out hb0) (cell_below hb0 hm hg) (by simp; omega)).mono ?_
  rintro e w1 ⟨rfl, hb1⟩
  have hB1 : Below w.heap.size w w1 := hb0.trans (hb1.mono hb0.size)
  have hK1 := hK'.below hb1 hK'.lt
  have hZ1 := hZ'.below hb1 hZ'.lt
  clear hK' hZ' k0 k1 k2 k3 k4 k5 hb1 hb0
  have k0 := hK1.at 0 _ rfl
  have k1 := hK1.at 1 _ rfl
  have k2 := hK1.at 2 _ rfl
  have k3 := hK1.at 3 _ rfl
  have k4 := hK1.at 4 _ rfl
  have k5 := hK1.at 5 _ rfl
  have kl := hK1.lt
  go_wp2_with fail
  refine (HD.out _ (Kd.C_below hr.out (hB1.alloc hB1.size _))).mono ?_
  rintro e w2 ⟨v2, rfl, hR2, hb2⟩
  obtain ⟨A5, c5, rfl⟩ := Kd.R_slice hR2
  obtain ⟨b, hbe⟩ : ∃ b, b = w1.heap.size := ⟨_, rfl⟩
  have hP2 : Blk w2 b [.int .i64 st, .string fr.loc, .string fr.dom, .slice A to_.length c, .string tx, .bool lg] := by rw [hbe]; exact (Blk.made w1 _ _).below hb2 (by simp)
  have hz12 : b < w2.heap.size := hP2.lt
  have hKZ : w.heap.size + 1 < b := by rw [hbe]; exact hZ1.lt
  have hB2 : Below w.heap.size w w2 := (hB1.alloc hB1.size _).trans (hb2.mono (hB1.alloc hB1.size _).size)
  have hK2 := (hK1.alloc (.cells #[.int .i64 st, .string fr.loc, .string fr.dom, .slice A to_.length c, .string tx, .bool lg] 96)).below hb2 (by simp; omega)
  have hZ2 := (hZ1.alloc (.cells #[.int .i64 st, .string fr.loc, .string fr.dom, .slice A to_.length c, .string tx, .bool lg] 96)).below hb2 (by simp; omega)
  have hR2b : Kd.R kAAddress 49 w2 (b + 1) (fun _ => True) (.slice A5 to_.length c5) to_ := Kd.R_lower hR2 (by rw [hbe]; simp)
  rw [← hbe]
  clear k0 k1 k2 k3 k4 k5 kl hb2 hR2 hK1 hZ1
  replace hbe := Lib.hid hbe
  have hc5 : to_.length ≤ c5 := (Kd.R_reads' hR2b).2.1
  replace hc5 := Lib.hid hc5
  have hS2 : SesAt (w2.setCell ⟨b, 3, none⟩ (.slice A5 to_.length c5)) b ⟨st, fr, to_, tx, lg⟩ := ⟨A5, c5, hP2.set 3 _ (by simp), hc5.out, toR_of (R_elder hR2b (show b < b + 1 by omega) _) (by omega)⟩
  have k0 := hK2.at 0 _ rfl
  have k3 := hK2.at 3 _ rfl
  have kl := hK2.lt
  have b3 := hP2.at 3 _ rfl
  have g3 := hP2.free 3 _ rfl
  have nb0 : ¬ w.heap.size = b := by omega
  have nb1 : ¬ w.heap.size + 1 = b := by omega
  have nb2 : ¬ b = w.heap.size := by omega
  have nb3 : ¬ b = w.heap.size + 1 := by omega
  go_wp2_with fail
  have hB3 : Below w.heap.size w (w2.setCell ⟨b, 3, none⟩ (.slice A5 to_.length c5)) := Below.setCell hB2 (by show w.heap.size ≤ b; omega) _
  refine (HX.out b _ hS2 (fun w' h' => Kd.C_below hkn.out (below_grown hB3 h' (by omega))) (cell_below hB3 hm hg) (by simp; omega)).mono ?_
  rintro e w4 ⟨rfl, hS, hG⟩
  simp only at hS ⊢
  clear hB3
  obtain ⟨A6, c6, hP4, hc6, hT4⟩ := hS
  have hG4 := below_grown (Below.setCell hB2 (show w.heap.size ≤ b by omega) (.slice A5 to_.length c5)) hG (by omega)
  have hZ4 := (hZ2.other (c := b) (j := 3) (by omega) (.slice A5 to_.length c5)).grown hG (fun he => by have := Option.some.inj he; omega)
  clear k0 k3 kl b3 g3 hS2 hP2 hR2b hK2 hZ2
  have b0 := hP4.at 0 _ rfl
  have b1 := hP4.at 1 _ rfl
  have b2 := hP4.at 2 _ rfl
  have b3 := hP4.at 3 _ rfl
  have b4 := hP4.at 4 _ rfl
  have b5 := hP4.at 5 _ rfl
  have bl := hP4.lt
  replace hc6 := Lib.hid hc6
  have z0 := (hZ4).at 0 _ rfl
  have z1 := (hZ4).at 1 _ rfl
  have z2 := (hZ4).at 2 _ rfl
  have z3 := (hZ4).at 3 _ rfl
  have z4 := (hZ4).at 4 _ rfl
  have z5 := (hZ4).at 5 _ rfl
  have f0 := (hZ4).free 0 _ rfl
  have f1 := (hZ4).free 1 _ rfl
  have f2 := (hZ4).free 2 _ rfl
  have f3 := (hZ4).free 3 _ rfl
  have f4 := (hZ4).free 4 _ rfl
  have f5 := (hZ4).free 5 _ rfl
  have fl := (hZ4).lt
  go_wp2_with fail
  refine bodyPost_ret (v := .tuple #[.agg #[.int .i64 st2, .string fr2.loc, .string fr2.dom, .slice A6 to2.length c6, .string tx2, .bool lg2], .int .i64 code, .slice none 0 0, .int .i64 0]) (by simp [results, Tryd.results29, go_sem, *]) rfl (postLine_ses rfl hc6.out ((toX_six (d := kAAddress) hT4 (by omega)).weak (by omega)) (below_six hG4 (Nat.le_succ _)))
set_option maxHeartbeats 1000000 in
set_option maxRecDepth 100000 in
theorem line_body (A : Option Addr) (c : Nat) (A0 : Option Addr) (c0 : Nat) (kn : List ByteArray) (line : ByteArray) (m : Int) (w : World) (st : Int) (fr : AAddress) (to_ : List AAddress) (tx : ByteArray) (lg : Bool) (hr : Kd.C kAAddress w A to_.length to_) (hc : to_.length ≤ c) (ha : fr.loc.size ≤ 1048576) (hb : fr.dom.size ≤ 1048576) (hs : ∀ x ∈ to_, x.loc.size ≤ 1048576 ∧ x.dom.size ≤ 1048576) (hm : w.cell? ⟨6, 0, none⟩ = some (.int .i64 m)) (hg : 6 < w.heap.size) (hl : line.size ≤ 1048576) (hok : sessMay st fr to_ tx lg) (h4 : st = 4) (hd : ¬ line = ⟨#[46]⟩) : Calls Tryd.prog 29 #[.agg #[.int .i64 st, .string fr.loc, .string fr.dom, .slice A to_.length c, .string tx, .bool lg], .slice A0 kn.length c0, .string line] w (PostLine w (bodyV ⟨st, fr, to_, tx, lg⟩ line, 0, [], 0)) := by
  have HC := Lib.hid (fun w hr hm hg => lmtpCheck_calls st fr A c to_ tx lg w hr hc m ha hb hs hm hg)
  rw [sess_yes hok] at HC
  have hlen := hok.2.2.1
  have HD := Lib.hid (fun w hr => cloneAddrs_calls A c to_ w hr (by omega))
  have HX := Lib.hid (fun b w hs => body_calls b ⟨st, fr, to_, tx, lg⟩ line w hs hok.2.2.2.1 hl)
  generalize bodyV ⟨st, fr, to_, tx, lg⟩ line = r at *
  obtain ⟨st2, fr2, to2, tx2, lg2⟩ := r
  clear hok hs hlen
  have i5 : (st == 5) = false := beq_eq_false_iff_ne.mpr (by omega)
  have i4 : (st != 4) = false := by rw [h4]; rfl
  have id := lit_no (l := [46]) hd
  clear h4 hd
  replace hr := Lib.hid hr
  replace hc := Lib.hid hc
  skip
  have hK' : Blk ((w.alloc (.cells #[.int .i64 st, .string fr.loc, .string fr.dom, .slice A to_.length c, .string tx, .bool lg] 52)).alloc (.cells #[.int .i64 0, .string ⟨#[]⟩, .string ⟨#[]⟩, .slice none 0 0, .string ⟨#[]⟩, .bool false] 52)) w.heap.size [.int .i64 st, .string fr.loc, .string fr.dom, .slice A to_.length c, .string tx, .bool lg] := (Blk.made w _ _).alloc _
  have hZ' : Blk ((w.alloc (.cells #[.int .i64 st, .string fr.loc, .string fr.dom, .slice A to_.length c, .string tx, .bool lg] 52)).alloc (.cells #[.int .i64 0, .string ⟨#[]⟩, .string ⟨#[]⟩, .slice none 0 0, .string ⟨#[]⟩, .bool false] 52)) (w.heap.size + 1) [.int .i64 0, .string ⟨#[]⟩, .string ⟨#[]⟩, .slice none 0 0, .string ⟨#[]⟩, .bool false] := Blk.made_at _ _ _ (by simp)
  have hb0 : Below w.heap.size w ((w.alloc (.cells #[.int .i64 st, .string fr.loc, .string fr.dom, .slice A to_.length c, .string tx, .bool lg] 52)).alloc (.cells #[.int .i64 0, .string ⟨#[]⟩, .string ⟨#[]⟩, .slice none 0 0, .string ⟨#[]⟩, .bool false] 52)) := (by repeat (first | exact Below.refl _ _ | apply below_alloc | apply pw_below_drewN | apply below_drew1 | (refine Below.setCell ?_ (by first | (simp; done) | (simp; omega) | omega) _) ))
  have k0 := hK'.at 0 _ rfl
  have k1 := hK'.at 1 _ rfl
  have k2 := hK'.at 2 _ rfl
  have k3 := hK'.at 3 _ rfl
  have k4 := hK'.at 4 _ rfl
  have k5 := hK'.at 5 _ rfl
  go_enter Tryd.func29, Tryd.ntmps29
  go_wp2_with fail
  refine (HC.out _ (Kd.C_below hr.out hb0) (cell_below hb0 hm hg) (by simp; omega)).mono ?_
  rintro e w1 ⟨rfl, hb1⟩
  have hB1 : Below w.heap.size w w1 := hb0.trans (hb1.mono hb0.size)
  have hK1 := hK'.below hb1 hK'.lt
  have hZ1 := hZ'.below hb1 hZ'.lt
  clear hK' hZ' k0 k1 k2 k3 k4 k5 hb1 hb0
  have k0 := hK1.at 0 _ rfl
  have k1 := hK1.at 1 _ rfl
  have k2 := hK1.at 2 _ rfl
  have k3 := hK1.at 3 _ rfl
  have k4 := hK1.at 4 _ rfl
  have k5 := hK1.at 5 _ rfl
  have kl := hK1.lt
  go_wp2_with fail
  refine (HD.out _ (Kd.C_below hr.out (hB1.alloc hB1.size _))).mono ?_
  rintro e w2 ⟨v2, rfl, hR2, hb2⟩
  obtain ⟨A5, c5, rfl⟩ := Kd.R_slice hR2
  obtain ⟨b, hbe⟩ : ∃ b, b = w1.heap.size := ⟨_, rfl⟩
  have hP2 : Blk w2 b [.int .i64 st, .string fr.loc, .string fr.dom, .slice A to_.length c, .string tx, .bool lg] := by rw [hbe]; exact (Blk.made w1 _ _).below hb2 (by simp)
  have hz12 : b < w2.heap.size := hP2.lt
  have hKZ : w.heap.size + 1 < b := by rw [hbe]; exact hZ1.lt
  have hB2 : Below w.heap.size w w2 := (hB1.alloc hB1.size _).trans (hb2.mono (hB1.alloc hB1.size _).size)
  have hK2 := (hK1.alloc (.cells #[.int .i64 st, .string fr.loc, .string fr.dom, .slice A to_.length c, .string tx, .bool lg] 96)).below hb2 (by simp; omega)
  have hZ2 := (hZ1.alloc (.cells #[.int .i64 st, .string fr.loc, .string fr.dom, .slice A to_.length c, .string tx, .bool lg] 96)).below hb2 (by simp; omega)
  have hR2b : Kd.R kAAddress 49 w2 (b + 1) (fun _ => True) (.slice A5 to_.length c5) to_ := Kd.R_lower hR2 (by rw [hbe]; simp)
  rw [← hbe]
  clear k0 k1 k2 k3 k4 k5 kl hb2 hR2 hK1 hZ1
  replace hbe := Lib.hid hbe
  have hc5 : to_.length ≤ c5 := (Kd.R_reads' hR2b).2.1
  replace hc5 := Lib.hid hc5
  have hS2 : SesAt (w2.setCell ⟨b, 3, none⟩ (.slice A5 to_.length c5)) b ⟨st, fr, to_, tx, lg⟩ := ⟨A5, c5, hP2.set 3 _ (by simp), hc5.out, toR_of (R_elder hR2b (show b < b + 1 by omega) _) (by omega)⟩
  have k0 := hK2.at 0 _ rfl
  have k3 := hK2.at 3 _ rfl
  have kl := hK2.lt
  have b3 := hP2.at 3 _ rfl
  have g3 := hP2.free 3 _ rfl
  have nb0 : ¬ w.heap.size = b := by omega
  have nb1 : ¬ w.heap.size + 1 = b := by omega
  have nb2 : ¬ b = w.heap.size := by omega
  have nb3 : ¬ b = w.heap.size + 1 := by omega
  go_wp2_with fail
  refine (HX.out b _ hS2).mono ?_
  rintro e w4 ⟨rfl, hS, hG⟩
  simp only at hS ⊢
  obtain ⟨A6, c6, hP4, hc6, hT4⟩ := hS
  have hG4 := below_grown (Below.setCell hB2 (show w.heap.size ≤ b by omega) (.slice A5 to_.length c5)) hG (by omega)
  have hZ4 := (hZ2.other (c := b) (j := 3) (by omega) (.slice A5 to_.length c5)).grown hG (fun he => by have := Option.some.inj he; omega)
  clear k0 k3 kl b3 g3 hS2 hP2 hR2b hK2 hZ2
  have b0 := hP4.at 0 _ rfl
  have b1 := hP4.at 1 _ rfl
  have b2 := hP4.at 2 _ rfl
  have b3 := hP4.at 3 _ rfl
  have b4 := hP4.at 4 _ rfl
  have b5 := hP4.at 5 _ rfl
  have bl := hP4.lt
  replace hc6 := Lib.hid hc6
  have z0 := (hZ4).at 0 _ rfl
  have z1 := (hZ4).at 1 _ rfl
  have z2 := (hZ4).at 2 _ rfl
  have z3 := (hZ4).at 3 _ rfl
  have z4 := (hZ4).at 4 _ rfl
  have z5 := (hZ4).at 5 _ rfl
  have f0 := (hZ4).free 0 _ rfl
  have f1 := (hZ4).free 1 _ rfl
  have f2 := (hZ4).free 2 _ rfl
  have f3 := (hZ4).free 3 _ rfl
  have f4 := (hZ4).free 4 _ rfl
  have f5 := (hZ4).free 5 _ rfl
  have fl := (hZ4).lt
  go_wp2_with fail
  refine bodyPost_ret (v := .tuple #[.agg #[.int .i64 st2, .string fr2.loc, .string fr2.dom, .slice A6 to2.length c6, .string tx2, .bool lg2], .int .i64 0, .slice none 0 0, .int .i64 0]) (by simp [results, Tryd.results29, go_sem, *]) rfl (postLine_ses rfl hc6.out ((toX_six (d := kAAddress) hT4 (by omega)).weak (by omega)) (below_six hG4 (Nat.le_succ _)))
end Go.Proofs.YtijdghplfhfpaaaDoor.H

/- Lines: a letter's end: the letters that are handed over. -/
namespace Go.Proofs.YtijdghplfhfpaaaDoor.H
open Go.RowKit Go.Proofs.YtijdghplfhfpaaaDoorW.PrintWords Go.Proofs.YtijdghplfhfpaaaDoorW.PrintLast Go.Proofs.YtijdghplfhfpaaaDoor.U
set_option linter.unusedVariables false
set_option linter.unusedSimpArgs false
theorem elder_sixL {w1 : World} {base b : Nat} {v : Value} {xs : List ALetter} {v0 v1 v2 v3 v4 v5 : Value} (h : Kd.R kALetter 101 w1 base (fun _ => True) v xs) (hb : b < base) :
    Kd.R kALetter 101 ((((((w1.setCell ⟨b, 0, none⟩ v0).setCell ⟨b, 1, none⟩ v1).setCell ⟨b, 2, none⟩ v2).setCell ⟨b, 3, none⟩ v3).setCell ⟨b, 4, none⟩ v4).setCell ⟨b, 5, none⟩ v5) base (fun _ => True) v xs :=
  R_elder (R_elder (R_elder (R_elder (R_elder (R_elder h hb _) hb _) hb _) hb _) hb _) hb _
theorem R_allocL {w : World} {base : Nat} {v : Value} {xs : List ALetter} (h : Kd.R kALetter 101 w base (fun _ => True) v xs) (o : Obj) : Kd.R kALetter 101 (w.alloc o) base (fun _ => True) v xs :=
  Kd.R_mono (Kd.R_grown (Kd.R_bound h) (grownA (World.grownBy.refl w none) o) (fun k _ he => by simp at he)) (fun _ _ => trivial)
theorem postLine_letters {w w' : World} {base : Nat} {A2 : Option Addr} {n c2 : Nat} {ls : List ALetter} {e : Ending} (hR : Kd.R kALetter 101 w' base (fun _ => True) (.slice A2 n c2) ls)
    (he : e = .returned (.tuple #[.agg #[.int .i64 1, .string ⟨#[]⟩, .string ⟨#[]⟩, .slice none 0 0, .string ⟨#[]⟩, .bool false], .int .i64 0, .slice A2 n c2, .int .i64 0])) (hb : Below w.heap.size w w') (hbase : w.heap.size < base) : PostLine w (noSes 1, 0, ls, 0) e w' := by
  obtain ⟨rfl, _, h3⟩ := Kd.R_reads' hR
  exact ⟨none, 0, A2, c2, he, Nat.le_refl _, toX_nil _ _ _, toX_of hR hbase, hb⟩
set_option maxHeartbeats 1000000 in
set_option maxRecDepth 100000 in
theorem line_dot (A : Option Addr) (c : Nat) (A0 : Option Addr) (c0 : Nat) (kn : List ByteArray) (line : ByteArray) (m : Int) (w : World) (st : Int) (fr : AAddress) (to_ : List AAddress) (tx : ByteArray) (lg : Bool) (hr : Kd.C kAAddress w A to_.length to_) (hc : to_.length ≤ c) (ha : fr.loc.size ≤ 1048576) (hb : fr.dom.size ≤ 1048576) (hs : ∀ x ∈ to_, x.loc.size ≤ 1048576 ∧ x.dom.size ≤ 1048576) (hm : w.cell? ⟨6, 0, none⟩ = some (.int .i64 m)) (hg : 6 < w.heap.size) (hok : sessMay st fr to_ tx lg) (h4 : st = 4) (hd : line = ⟨#[46]⟩) : Calls Tryd.prog 29 #[.agg #[.int .i64 st, .string fr.loc, .string fr.dom, .slice A to_.length c, .string tx, .bool lg], .slice A0 kn.length c0, .string line] w (PostLine w (noSes 1, 0, to_.map fun a => ⟨fr, a, tx⟩, 0)) := by
  have HC := Lib.hid (fun w hr hm hg => lmtpCheck_calls st fr A c to_ tx lg w hr hc m ha hb hs hm hg)
  rw [sess_yes hok] at HC
  have hlen := hok.2.2.1
  have HD := Lib.hid (fun w hr => cloneAddrs_calls A c to_ w hr (by omega))
  clear hok hs
  have i5 : (st == 5) = false := beq_eq_false_iff_ne.mpr (by omega)
  have i4 : (st != 4) = false := by rw [h4]; rfl
  subst hd
  clear h4
  replace hr := Lib.hid hr
  replace hc := Lib.hid hc
  skip
  have hK' : Blk ((w.alloc (.cells #[.int .i64 st, .string fr.loc, .string fr.dom, .slice A to_.length c, .string tx, .bool lg] 52)).alloc (.cells #[.int .i64 0, .string ⟨#[]⟩, .string ⟨#[]⟩, .slice none 0 0, .string ⟨#[]⟩, .bool false] 52)) w.heap.size [.int .i64 st, .string fr.loc, .string fr.dom, .slice A to_.length c, .string tx, .bool lg] := (Blk.made w _ _).alloc _
  have hZ' : Blk ((w.alloc (.cells #[.int .i64 st, .string fr.loc, .string fr.dom, .slice A to_.length c, .string tx, .bool lg] 52)).alloc (.cells #[.int .i64 0, .string ⟨#[]⟩, .string ⟨#[]⟩, .slice none 0 0, .string ⟨#[]⟩, .bool false] 52)) (w.heap.size + 1) [.int .i64 0, .string ⟨#[]⟩, .string ⟨#[]⟩, .slice none 0 0, .string ⟨#[]⟩, .bool false] := Blk.made_at _ _ _ (by simp)
  have hb0 : Below w.heap.size w ((w.alloc (.cells #[.int .i64 st, .string fr.loc, .string fr.dom, .slice A to_.length c, .string tx, .bool lg] 52)).alloc (.cells #[.int .i64 0, .string ⟨#[]⟩, .string ⟨#[]⟩, .slice none 0 0, .string ⟨#[]⟩, .bool false] 52)) := (by repeat (first | exact Below.refl _ _ | apply below_alloc | apply pw_below_drewN | apply below_drew1 | (refine Below.setCell ?_ (by first | (simp; done) | (simp; omega) | omega) _) ))
  have k0 := hK'.at 0 _ rfl
  have k1 := hK'.at 1 _ rfl
  have k2 := hK'.at 2 _ rfl
  have k3 := hK'.at 3 _ rfl
  have k4 := hK'.at 4 _ rfl
  have k5 := hK'.at 5 _ rfl
  go_enter Tryd.func29, Tryd.ntmps29
  go_wp2_with fail
  refine (HC.out _ (Kd.C_below hr.out hb0) (cell_below hb0 hm hg) (by simp; omega)).mono ?_
  rintro e w1 ⟨rfl, hb1⟩
  have hB1 : Below w.heap.size w w1 := hb0.trans (hb1.mono hb0.size)
  have hK1 := hK'.below hb1 hK'.lt
  have hZ1 := hZ'.below hb1 hZ'.lt
  clear hK' hZ' k0 k1 k2 k3 k4 k5 hb1 hb0
  have k0 := hK1.at 0 _ rfl
  have k1 := hK1.at 1 _ rfl
  have k2 := hK1.at 2 _ rfl
  have k3 := hK1.at 3 _ rfl
  have k4 := hK1.at 4 _ rfl
  have k5 := hK1.at 5 _ rfl
  have kl := hK1.lt
  go_wp2_with fail
  refine (HD.out _ (Kd.C_below hr.out (hB1.alloc hB1.size _))).mono ?_
  rintro e w2 ⟨v2, rfl, hR2, hb2⟩
  obtain ⟨A5, c5, rfl⟩ := Kd.R_slice hR2
  obtain ⟨b, hbe⟩ : ∃ b, b = w1.heap.size := ⟨_, rfl⟩
  have hP2 : Blk w2 b [.int .i64 st, .string fr.loc, .string fr.dom, .slice A to_.length c, .string tx, .bool lg] := by rw [hbe]; exact (Blk.made w1 _ _).below hb2 (by simp)
  have hz12 : b < w2.heap.size := hP2.lt
  have hKZ : w.heap.size + 1 < b := by rw [hbe]; exact hZ1.lt
  have hB2 : Below w.heap.size w w2 := (hB1.alloc hB1.size _).trans (hb2.mono (hB1.alloc hB1.size _).size)
  have hK2 := (hK1.alloc (.cells #[.int .i64 st, .string fr.loc, .string fr.dom, .slice A to_.length c, .string tx, .bool lg] 96)).below hb2 (by simp; omega)
  have hZ2 := (hZ1.alloc (.cells #[.int .i64 st, .string fr.loc, .string fr.dom, .slice A to_.length c, .string tx, .bool lg] 96)).below hb2 (by simp; omega)
  have hR2b : Kd.R kAAddress 49 w2 (b + 1) (fun _ => True) (.slice A5 to_.length c5) to_ := Kd.R_lower hR2 (by rw [hbe]; simp)
  rw [← hbe]
  clear k0 k1 k2 k3 k4 k5 kl hb2 hR2 hK1 hZ1
  replace hbe := Lib.hid hbe
  have hc5 : to_.length ≤ c5 := (Kd.R_reads' hR2b).2.1
  replace hc5 := Lib.hid hc5
  have hS2 : SesAt (w2.setCell ⟨b, 3, none⟩ (.slice A5 to_.length c5)) b ⟨st, fr, to_, tx, lg⟩ := ⟨A5, c5, hP2.set 3 _ (by simp), hc5.out, toR_of (R_elder hR2b (show b < b + 1 by omega) _) (by omega)⟩
  have k0 := hK2.at 0 _ rfl
  have k3 := hK2.at 3 _ rfl
  have kl := hK2.lt
  have b3 := hP2.at 3 _ rfl
  have g3 := hP2.free 3 _ rfl
  have nb0 : ¬ w.heap.size = b := by omega
  have nb1 : ¬ w.heap.size + 1 = b := by omega
  have nb2 : ¬ b = w.heap.size := by omega
  have nb3 : ¬ b = w.heap.size + 1 := by omega
  have hB3 : Below w.heap.size w (w2.setCell ⟨b, 3, none⟩ (.slice A5 to_.length c5)) := Below.setCell hB2 (by show w.heap.size ≤ b; omega) _
  have hK3 := hK2.other (c := b) (j := 3) (by omega) (.slice A5 to_.length c5)
  have hZ3 := hZ2.other (c := b) (j := 3) (by omega) (.slice A5 to_.length c5)
  clear hS2 hP2 hR2b
  go_wp2_with fail
  generalize w2.setCell ⟨b, 3, none⟩ (.slice A5 to_.length c5) = V at *
  clear hK2 hZ2 hB2 k0 k3 kl b3 g3 hz12
  have hzV := hK3.lt
  have hzV2 := hZ3.lt
  go_loopw [13, 66] (fun v i wr => ∃ k : Nat, k ≤ to_.length ∧ i = .int .i64 k ∧ Kd.R kALetter 101 wr V.heap.size (fun _ => True) v ((to_.take k).map fun a => (⟨fr, a, tx⟩ : ALetter)) ∧ Below V.heap.size V wr) (fun _ i _ => to_.length - (intOf i).toNat)
  case atStart => exact ⟨0, Nat.zero_le _, rfl, Kd.R_nil _ _ _ _ _, Below.refl _ _⟩
  case round =>
    obtain ⟨k, hk, rfl, hR, hB⟩ := hrel
    have hBw : Below w.heap.size w wr := hB3.trans (hB.mono hB3.size)
    have hK4 := hK3.below hB hzV
    have hZ4 := hZ3.below hB hzV2
    have hzz := hB.size
    obtain ⟨A1, c1, rfl⟩ := Kd.R_slice hR
    have hlk : ((to_.take k).map fun a => (⟨fr, a, tx⟩ : ALetter)).length = k := by rw [List.length_map, List.length_take]; omega
    rw [hlk] at hR ⊢
    replace hlk := Lib.hid hlk
    by_cases hlt : k < to_.length
    · obtain ⟨ad, e1, hx0, hxj⟩ := flat_at (Kd.C_below hr.out hBw) k hlt
      subst e1
      have q0 := hx0 _ rfl; have q1 := hxj 1 _ (by decide) rfl
      clear hx0 hxj
      have hts := Lib.hid (show (to_.take (k + 1)).map (fun a => (⟨fr, a, tx⟩ : ALetter)) = ((to_.map fun a => (⟨fr, a, tx⟩ : ALetter)).take k) ++ [⟨fr, to_[k], tx⟩] by rw [List.take_succ_eq_append_getElem hlt, List.map_append, List.map_take]; rfl)
      generalize to_[k] = y at *
      have i0 : (0 : Int) ≤ (k : Int) := by omega
      have i1 : (k : Int) < (to_.length : Int) := by omega
      have hKa := (hK4.alloc (.cells #[.string y.loc, .string y.dom] 49))
      have hYa := (Blk.made wr #[.string y.loc, .string y.dom] 49)
      have hRa := R_allocL hR (.cells #[.string y.loc, .string y.dom] 49)
      have ka1 := hK4.at 1 _ rfl
      have ka2 := hK4.at 2 _ rfl
      have ka4 := hK4.at 4 _ rfl
      have kal := hK4.lt
      go_wp2_with (at_builtin; refine snoc_list rowALetter V.heap.size rfl _ _ rfl (.slice A1 k c1) ((to_.take k).map fun a => (⟨fr, a, tx⟩ : ALetter)) ⟨fr, y, tx⟩ [.string fr.loc, .string fr.dom, .string y.loc, .string y.dom, .string tx] (by first | rfl | (simp [Act.eval]; done)) (by first | rfl | (simp [Act.eval]; done)) rfl hRa (by simp; omega) (by rw [hlk.out]; omega) ?_)
      intro v8 w8 hR8 hb8 hg8
      have hB8 : Below V.heap.size V w8 := (hB.alloc hB.size _).trans hb8
      go_wp2_with fail
      go_roundw
      case rel => exact ⟨k + 1, hlt, by go_num, by rw [hts.out]; exact hR8, hB8⟩
      case measure => simp [intOf]; omega
    · obtain rfl : k = to_.length := by omega
      have i1 : ¬ (to_.length : Int) < (to_.length : Int) := by omega
      have z0 := (hZ4).at 0 _ rfl
      have z1 := (hZ4).at 1 _ rfl
      have z2 := (hZ4).at 2 _ rfl
      have z3 := (hZ4).at 3 _ rfl
      have z4 := (hZ4).at 4 _ rfl
      have z5 := (hZ4).at 5 _ rfl
      have f0 := (hZ4).free 0 _ rfl
      have f1 := (hZ4).free 1 _ rfl
      have f2 := (hZ4).free 2 _ rfl
      have f3 := (hZ4).free 3 _ rfl
      have f4 := (hZ4).free 4 _ rfl
      have f5 := (hZ4).free 5 _ rfl
      have fl := (hZ4).lt
      go_wp2_with fail
      rw [List.take_length] at hR
      refine bodyPost_ret (v := .tuple #[.agg #[.int .i64 1, .string ⟨#[]⟩, .string ⟨#[]⟩, .slice none 0 0, .string ⟨#[]⟩, .bool false], .int .i64 0, .slice A1 to_.length c1, .int .i64 0]) (by simp [results, Tryd.results29, go_sem, *]) rfl (postLine_letters (elder_sixL hR (by omega)) rfl (below_six hBw (Nat.le_succ _)) (by omega))
theorem line_calls (s : Ses) (A : Option Addr) (c : Nat) (A0 : Option Addr) (c0 : Nat) (kn : List ByteArray) (line : ByteArray) (m : Int) (w : World) (hr : Kd.C kAAddress w A s.to_.length s.to_) (hc : s.to_.length ≤ c) (ha : s.fr.loc.size ≤ 1048576) (hb : s.fr.dom.size ≤ 1048576) (hs : ∀ x ∈ s.to_, x.loc.size ≤ 1048576 ∧ x.dom.size ≤ 1048576) (hl : line.size ≤ 1048576) (hkn : Kd.C Kd.string w A0 kn.length kn)
    (hm : w.cell? ⟨6, 0, none⟩ = some (.int .i64 m)) (hg : 6 < w.heap.size) :
    Calls Tryd.prog 29 #[SesV A c s, .slice A0 kn.length c0, .string line] w (PostLine w (lineV s kn line)) := by
  unfold lineV
  obtain ⟨st, fr, to_, tx, lg⟩ := s
  simp only at hr hc ha hb hs
  split
  · rename_i hok
    split
    · rename_i h5
      exact line_over A c A0 c0 kn line m w st fr to_ tx lg hr hc ha hb hs hm hg hok h5
    · rename_i h5
      split
      · rename_i h4
        split
        · rename_i hd
          exact line_dot A c A0 c0 kn line m w st fr to_ tx lg hr hc ha hb hs hm hg hok h4 hd
        · rename_i hd
          exact line_body A c A0 c0 kn line m w st fr to_ tx lg hr hc ha hb hs hm hg hl hok h4 hd
      · rename_i h4
        exact line_cmd A c A0 c0 kn line m w st fr to_ tx lg hr hc ha hb hs hm hg hl hkn hok h5 h4
  · rename_i hbad
    exact line_bad A c A0 c0 kn line m w st fr to_ tx lg hr hc ha hb hs hm hg hbad
end Go.Proofs.YtijdghplfhfpaaaDoor.H

/- Lines: a line of a session, as the reference does it. -/
namespace Go.Proofs.YtijdghplfhfpaaaDoor.H
open Go.RowKit Go.Proofs.YtijdghplfhfpaaaDoorW.PrintWords Go.Proofs.YtijdghplfhfpaaaDoorW.PrintLast Go.Proofs.YtijdghplfhfpaaaDoor.U
set_option linter.unusedVariables false
set_option linter.unusedSimpArgs false
set_option maxHeartbeats 1000000 in
set_option maxRecDepth 100000 in
theorem lined_bad (A : Option Addr) (c : Nat) (A0 : Option Addr) (c0 : Nat) (kn : List ByteArray) (line : ByteArray) (w : World) (st : Int) (fr : AAddress) (to_ : List AAddress) (tx : ByteArray) (lg : Bool) (hr : Kd.C kAAddress w A to_.length to_) (hc : to_.length ≤ c) (ha : fr.loc.size ≤ 1048576) (hb : fr.dom.size ≤ 1048576) (hs : ∀ x ∈ to_, x.loc.size ≤ 1048576 ∧ x.dom.size ≤ 1048576) (hbad : ¬ sessMay st fr to_ tx lg) : Calls Tryd.prog 31 #[.agg #[.int .i64 st, .string fr.loc, .string fr.dom, .slice A to_.length c, .string tx, .bool lg], .slice A0 kn.length c0, .string line] w (PostLine w (noSes 0, 0, [], 11)) := by
  have HC := Lib.hid (fun w hr => refSession_calls st fr A c to_ tx lg w hr hc ha hb hs)
  rw [sess_no hbad] at HC
  clear hbad hs
  replace hr := Lib.hid hr
  replace hc := Lib.hid hc
  have hK' : Blk ((w.alloc (.cells #[.int .i64 st, .string fr.loc, .string fr.dom, .slice A to_.length c, .string tx, .bool lg] 52)).alloc (.cells #[.int .i64 0, .string ⟨#[]⟩, .string ⟨#[]⟩, .slice none 0 0, .string ⟨#[]⟩, .bool false] 52)) w.heap.size [.int .i64 st, .string fr.loc, .string fr.dom, .slice A to_.length c, .string tx, .bool lg] := (Blk.made w _ _).alloc _
  have hZ' : Blk ((w.alloc (.cells #[.int .i64 st, .string fr.loc, .string fr.dom, .slice A to_.length c, .string tx, .bool lg] 52)).alloc (.cells #[.int .i64 0, .string ⟨#[]⟩, .string ⟨#[]⟩, .slice none 0 0, .string ⟨#[]⟩, .bool false] 52)) (w.heap.size + 1) [.int .i64 0, .string ⟨#[]⟩, .string ⟨#[]⟩, .slice none 0 0, .string ⟨#[]⟩, .bool false] := Blk.made_at _ _ _ (by simp)
  have hb0 : Below w.heap.size w ((w.alloc (.cells #[.int .i64 st, .string fr.loc, .string fr.dom, .slice A to_.length c, .string tx, .bool lg] 52)).alloc (.cells #[.int .i64 0, .string ⟨#[]⟩, .string ⟨#[]⟩, .slice none 0 0, .string ⟨#[]⟩, .bool false] 52)) := (by repeat (first | exact Below.refl _ _ | apply below_alloc | apply pw_below_drewN | apply below_drew1 | (refine Below.setCell ?_ (by first | (simp; done) | (simp; omega) | omega) _) ))
  have k0 := hK'.at 0 _ rfl
  have k1 := hK'.at 1 _ rfl
  have k2 := hK'.at 2 _ rfl
  have k3 := hK'.at 3 _ rfl
  have k4 := hK'.at 4 _ rfl
  have k5 := hK'.at 5 _ rfl
  go_enter Tryd.func31, Tryd.ntmps31
  go_wp2_with fail
  refine (HC.out _ (Kd.C_below hr.out hb0)).mono ?_
  rintro e w1 ⟨rfl, hb1⟩
  have hB1 : Below w.heap.size w w1 := hb0.trans (hb1.mono hb0.size)
  have hK1 := hK'.below hb1 hK'.lt
  have hZ1 := hZ'.below hb1 hZ'.lt
  clear hK' hZ' k0 k1 k2 k3 k4 k5 hb1 hb0
  have z0 := (hZ1).at 0 _ rfl
  have z1 := (hZ1).at 1 _ rfl
  have z2 := (hZ1).at 2 _ rfl
  have z3 := (hZ1).at 3 _ rfl
  have z4 := (hZ1).at 4 _ rfl
  have z5 := (hZ1).at 5 _ rfl
  have f0 := (hZ1).free 0 _ rfl
  have f1 := (hZ1).free 1 _ rfl
  have f2 := (hZ1).free 2 _ rfl
  have f3 := (hZ1).free 3 _ rfl
  have f4 := (hZ1).free 4 _ rfl
  have f5 := (hZ1).free 5 _ rfl
  have fl := (hZ1).lt
  go_wp2_with fail
  refine bodyPost_ret (v := .tuple #[.agg #[.int .i64 0, .string ⟨#[]⟩, .string ⟨#[]⟩, .slice none 0 0, .string ⟨#[]⟩, .bool false], .int .i64 0, .slice none 0 0, .int .i64 11]) (by simp [results, Tryd.results31, go_sem, *]) rfl (postLine_ses (fr := ⟨⟨#[]⟩, ⟨#[]⟩⟩) (to_ := []) rfl (Nat.le_refl _) (toX_nil _ _ _) (below_six hB1 (Nat.le_succ _)))
set_option maxHeartbeats 1000000 in
set_option maxRecDepth 100000 in
theorem lined_over (A : Option Addr) (c : Nat) (A0 : Option Addr) (c0 : Nat) (kn : List ByteArray) (line : ByteArray) (w : World) (st : Int) (fr : AAddress) (to_ : List AAddress) (tx : ByteArray) (lg : Bool) (hr : Kd.C kAAddress w A to_.length to_) (hc : to_.length ≤ c) (ha : fr.loc.size ≤ 1048576) (hb : fr.dom.size ≤ 1048576) (hs : ∀ x ∈ to_, x.loc.size ≤ 1048576 ∧ x.dom.size ≤ 1048576) (hok : sessMay st fr to_ tx lg) (h5 : st = 5) : Calls Tryd.prog 31 #[.agg #[.int .i64 st, .string fr.loc, .string fr.dom, .slice A to_.length c, .string tx, .bool lg], .slice A0 kn.length c0, .string line] w (PostLine w (⟨st, fr, to_, tx, lg⟩, 0, [], 0)) := by
  have HC := Lib.hid (fun w hr => refSession_calls st fr A c to_ tx lg w hr hc ha hb hs)
  rw [sess_yes hok] at HC
  have hlen := hok.2.2.1
  clear hok hs
  have i5 : (st == 5) = true := by rw [h5]; rfl
  clear h5
  replace hr := Lib.hid hr
  replace hc := Lib.hid hc
  skip
  have hK' : Blk ((w.alloc (.cells #[.int .i64 st, .string fr.loc, .string fr.dom, .slice A to_.length c, .string tx, .bool lg] 52)).alloc (.cells #[.int .i64 0, .string ⟨#[]⟩, .string ⟨#[]⟩, .slice none 0 0, .string ⟨#[]⟩, .bool false] 52)) w.heap.size [.int .i64 st, .string fr.loc, .string fr.dom, .slice A to_.length c, .string tx, .bool lg] := (Blk.made w _ _).alloc _
  have hZ' : Blk ((w.alloc (.cells #[.int .i64 st, .string fr.loc, .string fr.dom, .slice A to_.length c, .string tx, .bool lg] 52)).alloc (.cells #[.int .i64 0, .string ⟨#[]⟩, .string ⟨#[]⟩, .slice none 0 0, .string ⟨#[]⟩, .bool false] 52)) (w.heap.size + 1) [.int .i64 0, .string ⟨#[]⟩, .string ⟨#[]⟩, .slice none 0 0, .string ⟨#[]⟩, .bool false] := Blk.made_at _ _ _ (by simp)
  have hb0 : Below w.heap.size w ((w.alloc (.cells #[.int .i64 st, .string fr.loc, .string fr.dom, .slice A to_.length c, .string tx, .bool lg] 52)).alloc (.cells #[.int .i64 0, .string ⟨#[]⟩, .string ⟨#[]⟩, .slice none 0 0, .string ⟨#[]⟩, .bool false] 52)) := (by repeat (first | exact Below.refl _ _ | apply below_alloc | apply pw_below_drewN | apply below_drew1 | (refine Below.setCell ?_ (by first | (simp; done) | (simp; omega) | omega) _) ))
  have k0 := hK'.at 0 _ rfl
  have k1 := hK'.at 1 _ rfl
  have k2 := hK'.at 2 _ rfl
  have k3 := hK'.at 3 _ rfl
  have k4 := hK'.at 4 _ rfl
  have k5 := hK'.at 5 _ rfl
  go_enter Tryd.func31, Tryd.ntmps31
  go_wp2_with fail
  refine (HC.out _ (Kd.C_below hr.out hb0)).mono ?_
  rintro e w1 ⟨rfl, hb1⟩
  have hB1 : Below w.heap.size w w1 := hb0.trans (hb1.mono hb0.size)
  have hK1 := hK'.below hb1 hK'.lt
  have hZ1 := hZ'.below hb1 hZ'.lt
  clear hK' hZ' k0 k1 k2 k3 k4 k5 hb1 hb0
  have kl1 := hK1.lt
  have zl1 := hZ1.lt
  go_wp2_with fail
  go_loopw [11, 12] (fun v i wr => ∃ k : Nat, k ≤ to_.length ∧ i = .int .i64 k ∧ Kd.R kAAddress 49 wr w1.heap.size (fun _ => True) v (to_.take k) ∧ Below w1.heap.size w1 wr) (fun _ i _ => to_.length - (intOf i).toNat)
  case atStart => exact ⟨0, Nat.zero_le _, rfl, Kd.R_nil _ _ _ _ _, Below.refl _ _⟩
  case round =>
    obtain ⟨k, hk, rfl, hR, hB⟩ := hrel
    have hBw : Below w.heap.size w wr := hB1.trans (hB.mono hB1.size)
    have hK4 := hK1.below hB kl1
    have hZ4 := hZ1.below hB zl1
    have hzz := hB.size
    have k3 := hK4.at 3 _ rfl
    have kl := hK4.lt
    obtain ⟨A5, c5, rfl⟩ := Kd.R_slice hR
    have hlk : (to_.take k).length = k := by rw [List.length_take]; omega
    rw [hlk] at hR ⊢
    replace hlk := Lib.hid hlk
    by_cases hlt : k < to_.length
    · obtain ⟨ad, e1, hx0, hxj⟩ := flat_at (Kd.C_below hr.out hBw) k hlt
      subst e1
      have q0 := hx0 _ rfl; have q1 := hxj 1 _ (by decide) rfl
      clear hx0 hxj
      have hts := Lib.hid (List.take_succ_eq_append_getElem hlt)
      generalize to_[k] = y at *
      have i0 : (0 : Int) ≤ (k : Int) := by omega
      have i1 : (k : Int) < (to_.length : Int) := by omega
      go_wp2_with (at_builtin; refine snoc_list rowAAddress w1.heap.size rfl _ _ rfl (.slice A5 k c5) (to_.take k) y [.string y.loc, .string y.dom] (by first | rfl | (simp [Act.eval]; done)) (by first | rfl | (simp [Act.eval]; done)) rfl hR (by omega) (by rw [hlk.out]; omega) ?_)
      intro v8 w8 hR8 hb8 hg8
      have hB8 : Below w1.heap.size w1 w8 := hB.trans hb8
      go_wp2_with fail
      go_roundw
      case rel => exact ⟨k + 1, hlt, by go_num, by rw [hts.out]; exact hR8, hB8⟩
      case measure => simp [intOf]; omega
    · obtain rfl : k = to_.length := by omega
      have i1 : ¬ (to_.length : Int) < (to_.length : Int) := by omega
      rw [List.take_length] at hR
      have g3 := hK4.free 3 _ rfl
      have hc5 := Lib.hid (Kd.R_reads' hR).2.1
      have hK5 := hK4.set 3 (.slice A5 to_.length c5) (by simp)
      have hZ5 := hZ4.other (c := w.heap.size) (j := 3) (by omega) (.slice A5 to_.length c5)
      have hR5 := R_elder hR (p := ⟨w.heap.size, 3, none⟩) (by show w.heap.size < _; omega) (.slice A5 to_.length c5)
      have hB5 : Below w.heap.size w (wr.setCell ⟨w.heap.size, 3, none⟩ (.slice A5 to_.length c5)) := Below.setCell hBw (Nat.le_refl _) _
      have k0 := hK4.at 0 _ rfl
      have k1 := hK4.at 1 _ rfl
      have k2 := hK4.at 2 _ rfl
      have k4 := hK4.at 4 _ rfl
      have k5 := hK4.at 5 _ rfl
      have nz1 : w1.heap.size ≤ (wr.setCell ⟨w.heap.size, 3, none⟩ (.slice A5 to_.length c5)).heap.size := by simp; omega
      skip
      have z0 := (hZ4).at 0 _ rfl
      have z1 := (hZ4).at 1 _ rfl
      have z2 := (hZ4).at 2 _ rfl
      have z3 := (hZ4).at 3 _ rfl
      have z4 := (hZ4).at 4 _ rfl
      have z5 := (hZ4).at 5 _ rfl
      have f0 := (hZ4).free 0 _ rfl
      have f1 := (hZ4).free 1 _ rfl
      have f2 := (hZ4).free 2 _ rfl
      have f3 := (hZ4).free 3 _ rfl
      have f4 := (hZ4).free 4 _ rfl
      have f5 := (hZ4).free 5 _ rfl
      have fl := (hZ4).lt
      go_wp2_with fail
      refine bodyPost_ret (v := .tuple #[.agg #[.int .i64 st, .string fr.loc, .string fr.dom, .slice A5 to_.length c5, .string tx, .bool lg], .int .i64 0, .slice none 0 0, .int .i64 0]) (by simp [results, Tryd.results31, go_sem, *]) rfl (postLine_ses rfl hc5.out (toX_of (elder_six hR5 (by omega)) (by omega)) (below_six hB5 (Nat.le_succ _)))
set_option maxHeartbeats 1000000 in
set_option maxRecDepth 100000 in
theorem lined_cmd (A : Option Addr) (c : Nat) (A0 : Option Addr) (c0 : Nat) (kn : List ByteArray) (line : ByteArray) (w : World) (st : Int) (fr : AAddress) (to_ : List AAddress) (tx : ByteArray) (lg : Bool) (hr : Kd.C kAAddress w A to_.length to_) (hc : to_.length ≤ c) (ha : fr.loc.size ≤ 1048576) (hb : fr.dom.size ≤ 1048576) (hs : ∀ x ∈ to_, x.loc.size ≤ 1048576 ∧ x.dom.size ≤ 1048576) (hkn : Kd.C Kd.string w A0 kn.length kn) (hok : sessMay st fr to_ tx lg) (h5 : ¬ st = 5) (h4 : ¬ st = 4) : Calls Tryd.prog 31 #[.agg #[.int .i64 st, .string fr.loc, .string fr.dom, .slice A to_.length c, .string tx, .bool lg], .slice A0 kn.length c0, .string line] w (PostLine w ((cmdV ⟨st, fr, to_, tx, lg⟩ kn line).1, (cmdV ⟨st, fr, to_, tx, lg⟩ kn line).2, [], 0)) := by
  have HC := Lib.hid (fun w hr => refSession_calls st fr A c to_ tx lg w hr hc ha hb hs)
  rw [sess_yes hok] at HC
  have hlen := hok.2.2.1
  have HX := Lib.hid (fun A c w hr hc hkn => commanded_calls ⟨st, fr, to_, tx, lg⟩ A c A0 c0 kn line w hr hc hlen hkn)
  rw [cmd_law (s := ⟨st, fr, to_, tx, lg⟩) hok h4] at HX
  generalize cmdV ⟨st, fr, to_, tx, lg⟩ kn line = r at *
  obtain ⟨⟨st2, fr2, to2, tx2, lg2⟩, code⟩ := r
  simp only [SesV] at HX ⊢
  clear hok hs
  have i5 : (st == 5) = false := beq_eq_false_iff_ne.mpr h5
  have i4 : (st != 4) = true := bne_iff_ne.mpr h4
  clear h5 h4
  replace hr := Lib.hid hr
  replace hc := Lib.hid hc
  replace hkn := Lib.hid hkn
  skip
  have hK' : Blk ((w.alloc (.cells #[.int .i64 st, .string fr.loc, .string fr.dom, .slice A to_.length c, .string tx, .bool lg] 52)).alloc (.cells #[.int .i64 0, .string ⟨#[]⟩, .string ⟨#[]⟩, .slice none 0 0, .string ⟨#[]⟩, .bool false] 52)) w.heap.size [.int .i64 st, .string fr.loc, .string fr.dom, .slice A to_.length c, .string tx, .bool lg] := (Blk.made w _ _).alloc _
  have hZ' : Blk ((w.alloc (.cells #[.int .i64 st, .string fr.loc, .string fr.dom, .slice A to_.length c, .string tx, .bool lg] 52)).alloc (.cells #[.int .i64 0, .string ⟨#[]⟩, .string ⟨#[]⟩, .slice none 0 0, .string ⟨#[]⟩, .bool false] 52)) (w.heap.size + 1) [.int .i64 0, .string ⟨#[]⟩, .string ⟨#[]⟩, .slice none 0 0, .string ⟨#[]⟩, .bool false] := Blk.made_at _ _ _ (by simp)
  have hb0 : Below w.heap.size w ((w.alloc (.cells #[.int .i64 st, .string fr.loc, .string fr.dom, .slice A to_.length c, .string tx, .bool lg] 52)).alloc (.cells #[.int .i64 0, .string ⟨#[]⟩, .string ⟨#[]⟩, .slice none 0 0, .string ⟨#[]⟩, .bool false] 52)) := (by repeat (first | exact Below.refl _ _ | apply below_alloc | apply pw_below_drewN | apply below_drew1 | (refine Below.setCell ?_ (by first | (simp; done) | (simp; omega) | omega) _) ))
  have k0 := hK'.at 0 _ rfl
  have k1 := hK'.at 1 _ rfl
  have k2 := hK'.at 2 _ rfl
  have k3 := hK'.at 3 _ rfl
  have k4 := hK'.at 4 _ rfl
  have k5 := hK'.at 5 _ rfl
  go_enter Tryd.func31, Tryd.ntmps31
  go_wp2_with fail
  refine (HC.out _ (Kd.C_below hr.out hb0)).mono ?_
  rintro e w1 ⟨rfl, hb1⟩
  have hB1 : Below w.heap.size w w1 := hb0.trans (hb1.mono hb0.size)
  have hK1 := hK'.below hb1 hK'.lt
  have hZ1 := hZ'.below hb1 hZ'.lt
  clear hK' hZ' k0 k1 k2 k3 k4 k5 hb1 hb0
  have kl1 := hK1.lt
  have zl1 := hZ1.lt
  go_wp2_with fail
  go_loopw [11, 12] (fun v i wr => ∃ k : Nat, k ≤ to_.length ∧ i = .int .i64 k ∧ Kd.R kAAddress 49 wr w1.heap.size (fun _ => True) v (to_.take k) ∧ Below w1.heap.size w1 wr) (fun _ i _ => to_.length - (intOf i).toNat)
  case atStart => exact ⟨0, Nat.zero_le _, rfl, Kd.R_nil _ _ _ _ _, Below.refl _ _⟩
  case round =>
    obtain ⟨k, hk, rfl, hR, hB⟩ := hrel
    have hBw : Below w.heap.size w wr := hB1.trans (hB.mono hB1.size)
    have hK4 := hK1.below hB kl1
    have hZ4 := hZ1.below hB zl1
    have hzz := hB.size
    have k3 := hK4.at 3 _ rfl
    have kl := hK4.lt
    obtain ⟨A5, c5, rfl⟩ := Kd.R_slice hR
    have hlk : (to_.take k).length = k := by rw [List.length_take]; omega
    rw [hlk] at hR ⊢
    replace hlk := Lib.hid hlk
    by_cases hlt : k < to_.length
    · obtain ⟨ad, e1, hx0, hxj⟩ := flat_at (Kd.C_below hr.out hBw) k hlt
      subst e1
      have q0 := hx0 _ rfl; have q1 := hxj 1 _ (by decide) rfl
      clear hx0 hxj
      have hts := Lib.hid (List.take_succ_eq_append_getElem hlt)
      generalize to_[k] = y at *
      have i0 : (0 : Int) ≤ (k : Int) := by omega
      have i1 : (k : Int) < (to_.length : Int) := by omega
      go_wp2_with (at_builtin; refine snoc_list rowAAddress w1.heap.size rfl _ _ rfl (.slice A5 k c5) (to_.take k) y [.string y.loc, .string y.dom] (by first | rfl | (simp [Act.eval]; done)) (by first | rfl | (simp [Act.eval]; done)) rfl hR (by omega) (by rw [hlk.out]; omega) ?_)
      intro v8 w8 hR8 hb8 hg8
      have hB8 : Below w1.heap.size w1 w8 := hB.trans hb8
      go_wp2_with fail
      go_roundw
      case rel => exact ⟨k + 1, hlt, by go_num, by rw [hts.out]; exact hR8, hB8⟩
      case measure => simp [intOf]; omega
    · obtain rfl : k = to_.length := by omega
      have i1 : ¬ (to_.length : Int) < (to_.length : Int) := by omega
      rw [List.take_length] at hR
      have g3 := hK4.free 3 _ rfl
      have hc5 := Lib.hid (Kd.R_reads' hR).2.1
      have hK5 := hK4.set 3 (.slice A5 to_.length c5) (by simp)
      have hZ5 := hZ4.other (c := w.heap.size) (j := 3) (by omega) (.slice A5 to_.length c5)
      have hR5 := R_elder hR (p := ⟨w.heap.size, 3, none⟩) (by show w.heap.size < _; omega) (.slice A5 to_.length c5)
      have hB5 : Below w.heap.size w (wr.setCell ⟨w.heap.size, 3, none⟩ (.slice A5 to_.length c5)) := Below.setCell hBw (Nat.le_refl _) _
      have k0 := hK4.at 0 _ rfl
      have k1 := hK4.at 1 _ rfl
      have k2 := hK4.at 2 _ rfl
      have k4 := hK4.at 4 _ rfl
      have k5 := hK4.at 5 _ rfl
      have nz1 : w1.heap.size ≤ (wr.setCell ⟨w.heap.size, 3, none⟩ (.slice A5 to_.length c5)).heap.size := by simp; omega
      skip
      go_wp2_with fail
      refine (HX.out A5 c5 _ (Kd.R_reads' hR5).2.2 hc5.out (Kd.C_below hkn.out hB5)).mono ?_
      rintro e w4 ⟨A6, c6, he, hc6, hD, hb4⟩
      simp only [SesV] at he hc6 hD
      subst he
      have hT6 : ToR w4 (w.heap.size + 1) A6 to2 := by
        rcases hD with ⟨h1, h2⟩ | hD
        · rw [h1, h2]
          exact (toR_of hR5 (by omega)).grown (grown_more (World.grownBy.refl _ _) hb4 (Nat.le_refl _))
        · exact toR_of hD (by omega)
      have hB6 : Below w.heap.size w w4 := hB5.trans (hb4.mono hB5.size)
      have hZ6 := hZ5.below hb4 hZ5.lt
      replace hc6 := Lib.hid hc6
      have hO := Blk.made w4 #[.int .i64 st2, .string fr2.loc, .string fr2.dom, .slice A6 to2.length c6, .string tx2, .bool lg2] 52
      clear k0 k1 k2 k3 k4 k5 kl hK4 hK5 hD hR hR5 hB5 hBw hZ4 hZ5 g3 hb4 nz1
      have o0 := hO.at 0 _ rfl
      have o1 := hO.at 1 _ rfl
      have o2 := hO.at 2 _ rfl
      have o3 := hO.at 3 _ rfl
      have o4 := hO.at 4 _ rfl
      have o5 := hO.at 5 _ rfl
      have z0 := (hZ6).at 0 _ rfl
      have z1 := (hZ6).at 1 _ rfl
      have z2 := (hZ6).at 2 _ rfl
      have z3 := (hZ6).at 3 _ rfl
      have z4 := (hZ6).at 4 _ rfl
      have z5 := (hZ6).at 5 _ rfl
      have f0 := (hZ6).free 0 _ rfl
      have f1 := (hZ6).free 1 _ rfl
      have f2 := (hZ6).free 2 _ rfl
      have f3 := (hZ6).free 3 _ rfl
      have f4 := (hZ6).free 4 _ rfl
      have f5 := (hZ6).free 5 _ rfl
      have fl := (hZ6).lt
      have n46 : ¬ w4.heap.size = w.heap.size + 1 := by omega
      have n64 : ¬ w.heap.size + 1 = w4.heap.size := by omega
      go_wp2_with fail
      refine bodyPost_ret (v := .tuple #[.agg #[.int .i64 st2, .string fr2.loc, .string fr2.dom, .slice A6 to2.length c6, .string tx2, .bool lg2], .int .i64 code, .slice none 0 0, .int .i64 0]) (by simp [results, Tryd.results31, go_sem, *]) rfl (postLine_ses rfl hc6.out ((toX_sixA (d := kAAddress) hT6 (Nat.le_refl _)).weak (Nat.le_succ _)) (below_sixA hB6 (Nat.le_succ _)))
end Go.Proofs.YtijdghplfhfpaaaDoor.H
