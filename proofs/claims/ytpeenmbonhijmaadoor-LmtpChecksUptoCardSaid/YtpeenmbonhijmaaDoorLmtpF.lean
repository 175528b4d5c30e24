/- Sessions: the walk of the reference's SessionFault. -/
import Derived.Test.YtpeenmbonhijmaaDoorLmtpB
import Derived.Deep.RegionHeld3
namespace Go.Proofs.YtpeenmbonhijmaaDoor.H
open Go.RowKit Go.Proofs.YtpeenmbonhijmaaDoorW.PrintWords Go.Proofs.YtpeenmbonhijmaaDoorW.PrintLast Go.Proofs.YtpeenmbonhijmaaDoorW.PrintMore Go.Proofs.YtpeenmbonhijmaaDoor.U
set_option linter.unusedVariables false
set_option linter.unusedSimpArgs false
set_option maxHeartbeats 1000000 in
set_option maxRecDepth 100000 in
theorem refSession_bad (st : Int) (fr : AAddress) (A : Option Addr) (c : Nat) (l : List AAddress) (tx : ByteArray) (lg : Bool) (w : World) (h : st < 0 ∨ 5 < st ∨ 5 < l.length ∨ 2000 < tx.size) :
    Calls Tryd.prog 17 #[.agg #[.int .i64 st, .string fr.loc, .string fr.dom, .slice A l.length c, .string tx, .bool lg]] w fun e w' => e = .returned (.int .i64 11) ∧ Below w.heap.size w w' := by
  rcases (by omega : ¬ (0 ≤ st ∧ st ≤ 5) ∨ (0 ≤ st ∧ st ≤ 5 ∧ (5 : Int) < l.length) ∨ (0 ≤ st ∧ st ≤ 5 ∧ ¬ (5 : Int) < l.length ∧ (2000 : Int) < tx.size)) with h | ⟨h1, h2, h⟩ | ⟨h1, h2, h3, h⟩
  all_goals
    go_enter Tryd.func17, Tryd.ntmps17
    go_wp2_with ((go_at_call 53; first | (refine (in_yes _ _ _ _ (by omega) (by omega)).mono ?_; rintro e w' ⟨rfl, rfl⟩) | (refine (in_no _ _ _ _ (by omega)).mono ?_; rintro e w' ⟨rfl, rfl⟩)))
    go_ret
    exact ⟨(by first | rfl | (simp; done) | (simp [*]; done) | (rw [if_pos (by omega)]; first | rfl | (simp; done)) | (rw [if_neg (by omega)]; first | rfl | (simp; done)) | (simp; omega)), (by repeat (first | exact Below.refl _ _ | apply below_alloc | apply pw_below_drewN | apply below_drew1 | (refine Below.setCell ?_ (by first | (simp; done) | (simp; omega) | omega) _) ))⟩
set_option maxHeartbeats 1000000 in
set_option maxRecDepth 100000 in
theorem refSession_none (st : Int) (h0 : 0 ≤ st) (h5 : st ≤ 5) (hn2 : ¬ (2 ≤ st ∧ st ≤ 4)) (fr : AAddress) (A : Option Addr) (c : Nat) (l : List AAddress) (tx : ByteArray) (lg : Bool) (w : World) (hl : l.length ≤ 5) (ht : tx.size ≤ 2000) :
    Calls Tryd.prog 17 #[.agg #[.int .i64 st, .string fr.loc, .string fr.dom, .slice A l.length c, .string tx, .bool lg]] w fun e w' => e = .returned (.int .i64 (sessFault st fr l tx lg)) ∧ Below w.heap.size w w' := by
  have hi : ¬ (5 : Int) < l.length := by omega
  have hi2 : ¬ (2000 : Int) < tx.size := by omega
  have hn3 : ¬ (3 ≤ st ∧ st ≤ 4) := by omega
  have hne : ¬ st = 4 := by omega
  have hq := fun h => sess_yes (st := st) (fr := fr) (l := l) (tx := tx) (lg := lg) h
  have hn := fun h => sess_no (st := st) (fr := fr) (l := l) (tx := tx) (lg := lg) h
  generalize sessFault st fr l tx lg = r at *
  unfold sessMay at hq hn
  rw [if_neg hn2, if_neg hn3] at hq hn
  by_cases hfl : fr.loc.size = 0
  · have hfl' := size0 hfl
    by_cases hfd : fr.dom.size = 0
    · have hfd' := size0 hfd
      have hf : fr = emptyA := by cases fr; simp_all [emptyA]
      by_cases hl0 : l.length = 0
      · have hi0 : (l.length : Int) = 0 := by omega
        have HR := Lib.hid (And.intro (fun h => hq ⟨h0, h5, hl, ht, hf, hl0, .inr h⟩) (fun (h : ¬ (tx.size = 0 ∧ lg = false)) => hn fun hh => h (hh.2.2.2.2.2.2.resolve_left hne)))
        subst hf
        unfold emptyA
        clear hq hn hfl hfl' hfd hfd'
        go_enter Tryd.func17, Tryd.ntmps17
        go_wp2_with ((go_at_call 53; first | (refine (in_yes _ _ _ _ (by omega) (by omega)).mono ?_; rintro e w' ⟨rfl, rfl⟩) | (refine (in_no _ _ _ _ (by omega)).mono ?_; rintro e w' ⟨rfl, rfl⟩)))
        go_loopw [5] (fun i wr => i = .int .i64 0 ∧ wr = w.alloc (.cells #[.int .i64 st, .string ⟨#[]⟩, .string ⟨#[]⟩, .slice A 0 c, .string tx, .bool lg] 26)) (fun _ _ => 0)
        case atStart => exact ⟨rfl, rfl⟩
        case round =>
          obtain ⟨rfl, rfl⟩ := hrel
          -- the text and the flag: behind the loop
          by_cases ht0 : tx.size = 0
          · obtain rfl := size0 ht0
            cases lg with
            | false =>
              obtain rfl := HR.out.1 ⟨rfl, rfl⟩
              go_wp2_with fail
              go_ret
              exact ⟨(by first | rfl | (simp; done) | (simp [*]; done) | (rw [if_pos (by omega)]; first | rfl | (simp; done)) | (rw [if_neg (by omega)]; first | rfl | (simp; done)) | (simp; omega)), (by repeat (first | exact Below.refl _ _ | apply below_alloc | apply pw_below_drewN | apply below_drew1 | (refine Below.setCell ?_ (by first | (simp; done) | (simp; omega) | omega) _) ))⟩
            | true =>
              obtain rfl := HR.out.2 (by simp)
              go_wp2_with fail
              go_ret
              exact ⟨(by first | rfl | (simp; done) | (simp [*]; done) | (rw [if_pos (by omega)]; first | rfl | (simp; done)) | (rw [if_neg (by omega)]; first | rfl | (simp; done)) | (simp; omega)), (by repeat (first | exact Below.refl _ _ | apply below_alloc | apply pw_below_drewN | apply below_drew1 | (refine Below.setCell ?_ (by first | (simp; done) | (simp; omega) | omega) _) ))⟩
          · have hx := beq_empty_no ht0
            obtain rfl := HR.out.2 (fun h => ht0 h.1)
            go_wp2_with fail
            go_ret
            exact ⟨(by first | rfl | (simp; done) | (simp [*]; done) | (rw [if_pos (by omega)]; first | rfl | (simp; done)) | (rw [if_neg (by omega)]; first | rfl | (simp; done)) | (simp; omega)), (by repeat (first | exact Below.refl _ _ | apply below_alloc | apply pw_below_drewN | apply below_drew1 | (refine Below.setCell ?_ (by first | (simp; done) | (simp; omega) | omega) _) ))⟩
      · have hi3 : (0 : Int) < l.length := by omega
        obtain rfl := hn (fun hh => hl0 hh.2.2.2.2.2.1)
        subst hf
        unfold emptyA
        clear hq hn hfl hfl' hfd hfd'
        go_enter Tryd.func17, Tryd.ntmps17
        go_wp2_with ((go_at_call 53; first | (refine (in_yes _ _ _ _ (by omega) (by omega)).mono ?_; rintro e w' ⟨rfl, rfl⟩) | (refine (in_no _ _ _ _ (by omega)).mono ?_; rintro e w' ⟨rfl, rfl⟩)))
        go_ret
        exact ⟨(by first | rfl | (simp; done) | (simp [*]; done) | (rw [if_pos (by omega)]; first | rfl | (simp; done)) | (rw [if_neg (by omega)]; first | rfl | (simp; done)) | (simp; omega)), (by repeat (first | exact Below.refl _ _ | apply below_alloc | apply pw_below_drewN | apply below_drew1 | (refine Below.setCell ?_ (by first | (simp; done) | (simp; omega) | omega) _) ))⟩
    · have hx := beq_empty_no hfd
      obtain rfl := hn (fun hh => hfd (by rw [hh.2.2.2.2.1]; rfl))
      clear hq hn
      go_enter Tryd.func17, Tryd.ntmps17
      go_wp2_with ((go_at_call 53; first | (refine (in_yes _ _ _ _ (by omega) (by omega)).mono ?_; rintro e w' ⟨rfl, rfl⟩) | (refine (in_no _ _ _ _ (by omega)).mono ?_; rintro e w' ⟨rfl, rfl⟩)))
      go_ret
      exact ⟨(by first | rfl | (simp; done) | (simp [*]; done) | (rw [if_pos (by omega)]; first | rfl | (simp; done)) | (rw [if_neg (by omega)]; first | rfl | (simp; done)) | (simp; omega)), (by repeat (first | exact Below.refl _ _ | apply below_alloc | apply pw_below_drewN | apply below_drew1 | (refine Below.setCell ?_ (by first | (simp; done) | (simp; omega) | omega) _) ))⟩
  · have hx := beq_empty_no hfl
    obtain rfl := hn (fun hh => hfl (by rw [hh.2.2.2.2.1]; rfl))
    clear hq hn
    go_enter Tryd.func17, Tryd.ntmps17
    go_wp2_with ((go_at_call 53; first | (refine (in_yes _ _ _ _ (by omega) (by omega)).mono ?_; rintro e w' ⟨rfl, rfl⟩) | (refine (in_no _ _ _ _ (by omega)).mono ?_; rintro e w' ⟨rfl, rfl⟩)))
    go_ret
    exact ⟨(by first | rfl | (simp; done) | (simp [*]; done) | (rw [if_pos (by omega)]; first | rfl | (simp; done)) | (rw [if_neg (by omega)]; first | rfl | (simp; done)) | (simp; omega)), (by repeat (first | exact Below.refl _ _ | apply below_alloc | apply pw_below_drewN | apply below_drew1 | (refine Below.setCell ?_ (by first | (simp; done) | (simp; omega) | omega) _) ))⟩
set_option maxHeartbeats 1000000 in
set_option maxRecDepth 100000 in
theorem refSession_two (st : Int) (hst : st = 2) (fr : AAddress) (A : Option Addr) (c : Nat) (l : List AAddress) (tx : ByteArray) (lg : Bool) (w : World) (hl : l.length ≤ 5) (ht : tx.size ≤ 2000) (ha : fr.loc.size ≤ 1048576) (hb : fr.dom.size ≤ 1048576) :
    Calls Tryd.prog 17 #[.agg #[.int .i64 st, .string fr.loc, .string fr.dom, .slice A l.length c, .string tx, .bool lg]] w fun e w' => e = .returned (.int .i64 (sessFault st fr l tx lg)) ∧ Below w.heap.size w w' := by
  have h0 : 0 ≤ st := by omega
  have h5 : st ≤ 5 := by omega
  have hs2 : 2 ≤ st := by omega
  have hs4 : st ≤ 4 := by omega
  have hn3 : ¬ (3 ≤ st ∧ st ≤ 4) := by omega
  have hne : ¬ st = 4 := by omega
  clear hst
  have hi : ¬ (5 : Int) < l.length := by omega
  have hi2 : ¬ (2000 : Int) < tx.size := by omega
  have hq := fun h => sess_yes (st := st) (fr := fr) (l := l) (tx := tx) (lg := lg) h
  have hn := fun h => sess_no (st := st) (fr := fr) (l := l) (tx := tx) (lg := lg) h
  have HC := fun w => addressFault_calls fr.loc fr.dom w ha hb
  generalize sessFault st fr l tx lg = r at *
  unfold sessMay at hq hn
  rw [if_pos ⟨hs2, hs4⟩, if_neg hn3] at hq hn
  generalize addrFault fr.loc fr.dom = f at *
  have HC := Lib.hid HC
  by_cases hf : f = 0
  · subst hf
    by_cases hl0 : l.length = 0
    · have hi0 : (l.length : Int) = 0 := by omega
      have HR := Lib.hid (And.intro (fun h => hq ⟨h0, h5, hl, ht, rfl, hl0, .inr h⟩) (fun (h : ¬ (tx.size = 0 ∧ lg = false)) => hn fun hh => h (hh.2.2.2.2.2.2.resolve_left hne)))
      clear hq hn
      go_enter Tryd.func17, Tryd.ntmps17
      go_wp2_with ((go_at_call 53; first | (refine (in_yes _ _ _ _ (by omega) (by omega)).mono ?_; rintro e w' ⟨rfl, rfl⟩) | (refine (in_no _ _ _ _ (by omega)).mono ?_; rintro e w' ⟨rfl, rfl⟩)))
      refine (HC.out _).mono ?_
      rintro e w1 ⟨rfl, hb1⟩
      obtain ⟨hc_w1, hf_w1⟩ := bcell hb1
      have s_ := hb1.size
      (try simp at s_)
      (first | (have : w.heap.size < w1.heap.size := by omega) | skip)
      have : w.heap.size ≤ w1.heap.size := by omega
      clear s_
      have : w1.cell? ⟨w.heap.size, 0, none⟩ = some (.int .i64 st) := (by rw [hc_w1 _ _ (by first | (simp; done) | (simp; omega))]; first | (simp; done) | (simp [*]; done) | assumption | (simp [go_sem, *]; done)); have : w1.frozen? ⟨w.heap.size, 0, none⟩ = false := (by rw [hf_w1 _ _ (by first | (simp; done) | (simp; omega))]; first | (simp; done) | (simp [*]; done) | assumption | (simp [go_sem, *]; done)); have : w1.cell? ⟨w.heap.size, 1, none⟩ = some (.string fr.loc) := (by rw [hc_w1 _ _ (by first | (simp; done) | (simp; omega))]; first | (simp; done) | (simp [*]; done) | assumption | (simp [go_sem, *]; done)); have : w1.frozen? ⟨w.heap.size, 1, none⟩ = false := (by rw [hf_w1 _ _ (by first | (simp; done) | (simp; omega))]; first | (simp; done) | (simp [*]; done) | assumption | (simp [go_sem, *]; done)); have : w1.cell? ⟨w.heap.size, 2, none⟩ = some (.string fr.dom) := (by rw [hc_w1 _ _ (by first | (simp; done) | (simp; omega))]; first | (simp; done) | (simp [*]; done) | assumption | (simp [go_sem, *]; done)); have : w1.frozen? ⟨w.heap.size, 2, none⟩ = false := (by rw [hf_w1 _ _ (by first | (simp; done) | (simp; omega))]; first | (simp; done) | (simp [*]; done) | assumption | (simp [go_sem, *]; done)); have : w1.cell? ⟨w.heap.size, 3, none⟩ = some (.slice A l.length c) := (by rw [hc_w1 _ _ (by first | (simp; done) | (simp; omega))]; first | (simp; done) | (simp [*]; done) | assumption | (simp [go_sem, *]; done)); have : w1.frozen? ⟨w.heap.size, 3, none⟩ = false := (by rw [hf_w1 _ _ (by first | (simp; done) | (simp; omega))]; first | (simp; done) | (simp [*]; done) | assumption | (simp [go_sem, *]; done)); have : w1.cell? ⟨w.heap.size, 4, none⟩ = some (.string tx) := (by rw [hc_w1 _ _ (by first | (simp; done) | (simp; omega))]; first | (simp; done) | (simp [*]; done) | assumption | (simp [go_sem, *]; done)); have : w1.frozen? ⟨w.heap.size, 4, none⟩ = false := (by rw [hf_w1 _ _ (by first | (simp; done) | (simp; omega))]; first | (simp; done) | (simp [*]; done) | assumption | (simp [go_sem, *]; done)); have : w1.cell? ⟨w.heap.size, 5, none⟩ = some (.bool lg) := (by rw [hc_w1 _ _ (by first | (simp; done) | (simp; omega))]; first | (simp; done) | (simp [*]; done) | assumption | (simp [go_sem, *]; done)); have : w1.frozen? ⟨w.heap.size, 5, none⟩ = false := (by rw [hf_w1 _ _ (by first | (simp; done) | (simp; omega))]; first | (simp; done) | (simp [*]; done) | assumption | (simp [go_sem, *]; done))
      clear hc_w1 hf_w1
      go_wp2_with ((go_at_call 53; first | (refine (in_yes _ _ _ _ (by omega) (by omega)).mono ?_; rintro e w' ⟨rfl, rfl⟩) | (refine (in_no _ _ _ _ (by omega)).mono ?_; rintro e w' ⟨rfl, rfl⟩)))
      go_loopw [5] (fun i wr => i = .int .i64 0 ∧ wr = w1) (fun _ _ => 0)
      case atStart => exact ⟨rfl, rfl⟩
      case round =>
        obtain ⟨rfl, rfl⟩ := hrel
        -- the text and the flag: behind the loop
        by_cases ht0 : tx.size = 0
        · obtain rfl := size0 ht0
          cases lg with
          | false =>
            obtain rfl := HR.out.1 ⟨rfl, rfl⟩
            go_wp2_with fail
            go_ret
            exact ⟨(by first | rfl | (simp; done) | (simp [*]; done) | (rw [if_pos (by omega)]; first | rfl | (simp; done)) | (rw [if_neg (by omega)]; first | rfl | (simp; done)) | (simp; omega)), (by repeat (first | exact Below.refl _ _ | apply below_alloc | apply pw_below_drewN | apply below_drew1 | (refine Below.setCell ?_ (by first | (simp; done) | (simp; omega) | omega) _) | (refine below_then ?_ (by first | (simp; done) | (simp; omega) | omega) hb1)))⟩
          | true =>
            obtain rfl := HR.out.2 (by simp)
            go_wp2_with fail
            go_ret
            exact ⟨(by first | rfl | (simp; done) | (simp [*]; done) | (rw [if_pos (by omega)]; first | rfl | (simp; done)) | (rw [if_neg (by omega)]; first | rfl | (simp; done)) | (simp; omega)), (by repeat (first | exact Below.refl _ _ | apply below_alloc | apply pw_below_drewN | apply below_drew1 | (refine Below.setCell ?_ (by first | (simp; done) | (simp; omega) | omega) _) | (refine below_then ?_ (by first | (simp; done) | (simp; omega) | omega) hb1)))⟩
        · have hx := beq_empty_no ht0
          obtain rfl := HR.out.2 (fun h => ht0 h.1)
          go_wp2_with fail
          go_ret
          exact ⟨(by first | rfl | (simp; done) | (simp [*]; done) | (rw [if_pos (by omega)]; first | rfl | (simp; done)) | (rw [if_neg (by omega)]; first | rfl | (simp; done)) | (simp; omega)), (by repeat (first | exact Below.refl _ _ | apply below_alloc | apply pw_below_drewN | apply below_drew1 | (refine Below.setCell ?_ (by first | (simp; done) | (simp; omega) | omega) _) | (refine below_then ?_ (by first | (simp; done) | (simp; omega) | omega) hb1)))⟩
    · have hi3 : (0 : Int) < l.length := by omega
      obtain rfl := hn (fun hh => hl0 hh.2.2.2.2.2.1)
      clear hq hn
      go_enter Tryd.func17, Tryd.ntmps17
      go_wp2_with ((go_at_call 53; first | (refine (in_yes _ _ _ _ (by omega) (by omega)).mono ?_; rintro e w' ⟨rfl, rfl⟩) | (refine (in_no _ _ _ _ (by omega)).mono ?_; rintro e w' ⟨rfl, rfl⟩)))
      refine (HC.out _).mono ?_
      rintro e w1 ⟨rfl, hb1⟩
      obtain ⟨hc_w1, hf_w1⟩ := bcell hb1
      have s_ := hb1.size
      (try simp at s_)
      (first | (have : w.heap.size < w1.heap.size := by omega) | skip)
      have : w.heap.size ≤ w1.heap.size := by omega
      clear s_
      have : w1.cell? ⟨w.heap.size, 0, none⟩ = some (.int .i64 st) := (by rw [hc_w1 _ _ (by first | (simp; done) | (simp; omega))]; first | (simp; done) | (simp [*]; done) | assumption | (simp [go_sem, *]; done)); have : w1.frozen? ⟨w.heap.size, 0, none⟩ = false := (by rw [hf_w1 _ _ (by first | (simp; done) | (simp; omega))]; first | (simp; done) | (simp [*]; done) | assumption | (simp [go_sem, *]; done)); have : w1.cell? ⟨w.heap.size, 1, none⟩ = some (.string fr.loc) := (by rw [hc_w1 _ _ (by first | (simp; done) | (simp; omega))]; first | (simp; done) | (simp [*]; done) | assumption | (simp [go_sem, *]; done)); have : w1.frozen? ⟨w.heap.size, 1, none⟩ = false := (by rw [hf_w1 _ _ (by first | (simp; done) | (simp; omega))]; first | (simp; done) | (simp [*]; done) | assumption | (simp [go_sem, *]; done)); have : w1.cell? ⟨w.heap.size, 2, none⟩ = some (.string fr.dom) := (by rw [hc_w1 _ _ (by first | (simp; done) | (simp; omega))]; first | (simp; done) | (simp [*]; done) | assumption | (simp [go_sem, *]; done)); have : w1.frozen? ⟨w.heap.size, 2, none⟩ = false := (by rw [hf_w1 _ _ (by first | (simp; done) | (simp; omega))]; first | (simp; done) | (simp [*]; done) | assumption | (simp [go_sem, *]; done)); have : w1.cell? ⟨w.heap.size, 3, none⟩ = some (.slice A l.length c) := (by rw [hc_w1 _ _ (by first | (simp; done) | (simp; omega))]; first | (simp; done) | (simp [*]; done) | assumption | (simp [go_sem, *]; done)); have : w1.frozen? ⟨w.heap.size, 3, none⟩ = false := (by rw [hf_w1 _ _ (by first | (simp; done) | (simp; omega))]; first | (simp; done) | (simp [*]; done) | assumption | (simp [go_sem, *]; done)); have : w1.cell? ⟨w.heap.size, 4, none⟩ = some (.string tx) := (by rw [hc_w1 _ _ (by first | (simp; done) | (simp; omega))]; first | (simp; done) | (simp [*]; done) | assumption | (simp [go_sem, *]; done)); have : w1.frozen? ⟨w.heap.size, 4, none⟩ = false := (by rw [hf_w1 _ _ (by first | (simp; done) | (simp; omega))]; first | (simp; done) | (simp [*]; done) | assumption | (simp [go_sem, *]; done)); have : w1.cell? ⟨w.heap.size, 5, none⟩ = some (.bool lg) := (by rw [hc_w1 _ _ (by first | (simp; done) | (simp; omega))]; first | (simp; done) | (simp [*]; done) | assumption | (simp [go_sem, *]; done)); have : w1.frozen? ⟨w.heap.size, 5, none⟩ = false := (by rw [hf_w1 _ _ (by first | (simp; done) | (simp; omega))]; first | (simp; done) | (simp [*]; done) | assumption | (simp [go_sem, *]; done))
      clear hc_w1 hf_w1
      go_wp2_with ((go_at_call 53; first | (refine (in_yes _ _ _ _ (by omega) (by omega)).mono ?_; rintro e w' ⟨rfl, rfl⟩) | (refine (in_no _ _ _ _ (by omega)).mono ?_; rintro e w' ⟨rfl, rfl⟩)))
      go_ret
      exact ⟨(by first | rfl | (simp; done) | (simp [*]; done) | (rw [if_pos (by omega)]; first | rfl | (simp; done)) | (rw [if_neg (by omega)]; first | rfl | (simp; done)) | (simp; omega)), (by repeat (first | exact Below.refl _ _ | apply below_alloc | apply pw_below_drewN | apply below_drew1 | (refine Below.setCell ?_ (by first | (simp; done) | (simp; omega) | omega) _) | (refine below_then ?_ (by first | (simp; done) | (simp; omega) | omega) hb1)))⟩
  · obtain rfl := hn (fun hh => hf hh.2.2.2.2.1)
    clear hq hn
    go_enter Tryd.func17, Tryd.ntmps17
    go_wp2_with ((go_at_call 53; first | (refine (in_yes _ _ _ _ (by omega) (by omega)).mono ?_; rintro e w' ⟨rfl, rfl⟩) | (refine (in_no _ _ _ _ (by omega)).mono ?_; rintro e w' ⟨rfl, rfl⟩)))
    refine (HC.out _).mono ?_
    rintro e w1 ⟨rfl, hb1⟩
    obtain ⟨hc_w1, hf_w1⟩ := bcell hb1
    have s_ := hb1.size
    (try simp at s_)
    (first | (have : w.heap.size < w1.heap.size := by omega) | skip)
    have : w.heap.size ≤ w1.heap.size := by omega
    clear s_
    have : w1.cell? ⟨w.heap.size, 0, none⟩ = some (.int .i64 st) := (by rw [hc_w1 _ _ (by first | (simp; done) | (simp; omega))]; first | (simp; done) | (simp [*]; done) | assumption | (simp [go_sem, *]; done)); have : w1.frozen? ⟨w.heap.size, 0, none⟩ = false := (by rw [hf_w1 _ _ (by first | (simp; done) | (simp; omega))]; first | (simp; done) | (simp [*]; done) | assumption | (simp [go_sem, *]; done)); have : w1.cell? ⟨w.heap.size, 1, none⟩ = some (.string fr.loc) := (by rw [hc_w1 _ _ (by first | (simp; done) | (simp; omega))]; first | (simp; done) | (simp [*]; done) | assumption | (simp [go_sem, *]; done)); have : w1.frozen? ⟨w.heap.size, 1, none⟩ = false := (by rw [hf_w1 _ _ (by first | (simp; done) | (simp; omega))]; first | (simp; done) | (simp [*]; done) | assumption | (simp [go_sem, *]; done)); have : w1.cell? ⟨w.heap.size, 2, none⟩ = some (.string fr.dom) := (by rw [hc_w1 _ _ (by first | (simp; done) | (simp; omega))]; first | (simp; done) | (simp [*]; done) | assumption | (simp [go_sem, *]; done)); have : w1.frozen? ⟨w.heap.size, 2, none⟩ = false := (by rw [hf_w1 _ _ (by first | (simp; done) | (simp; omega))]; first | (simp; done) | (simp [*]; done) | assumption | (simp [go_sem, *]; done)); have : w1.cell? ⟨w.heap.size, 3, none⟩ = some (.slice A l.length c) := (by rw [hc_w1 _ _ (by first | (simp; done) | (simp; omega))]; first | (simp; done) | (simp [*]; done) | assumption | (simp [go_sem, *]; done)); have : w1.frozen? ⟨w.heap.size, 3, none⟩ = false := (by rw [hf_w1 _ _ (by first | (simp; done) | (simp; omega))]; first | (simp; done) | (simp [*]; done) | assumption | (simp [go_sem, *]; done)); have : w1.cell? ⟨w.heap.size, 4, none⟩ = some (.string tx) := (by rw [hc_w1 _ _ (by first | (simp; done) | (simp; omega))]; first | (simp; done) | (simp [*]; done) | assumption | (simp [go_sem, *]; done)); have : w1.frozen? ⟨w.heap.size, 4, none⟩ = false := (by rw [hf_w1 _ _ (by first | (simp; done) | (simp; omega))]; first | (simp; done) | (simp [*]; done) | assumption | (simp [go_sem, *]; done)); have : w1.cell? ⟨w.heap.size, 5, none⟩ = some (.bool lg) := (by rw [hc_w1 _ _ (by first | (simp; done) | (simp; omega))]; first | (simp; done) | (simp [*]; done) | assumption | (simp [go_sem, *]; done)); have : w1.frozen? ⟨w.heap.size, 5, none⟩ = false := (by rw [hf_w1 _ _ (by first | (simp; done) | (simp; omega))]; first | (simp; done) | (simp [*]; done) | assumption | (simp [go_sem, *]; done))
    clear hc_w1 hf_w1
    go_wp2_with ((go_at_call 53; first | (refine (in_yes _ _ _ _ (by omega) (by omega)).mono ?_; rintro e w' ⟨rfl, rfl⟩) | (refine (in_no _ _ _ _ (by omega)).mono ?_; rintro e w' ⟨rfl, rfl⟩)))
    go_ret
    exact ⟨(by first | rfl | (simp; done) | (simp [*]; done) | (rw [if_pos (by omega)]; first | rfl | (simp; done)) | (rw [if_neg (by omega)]; first | rfl | (simp; done)) | (simp; omega)), (by repeat (first | exact Below.refl _ _ | apply below_alloc | apply pw_below_drewN | apply below_drew1 | (refine Below.setCell ?_ (by first | (simp; done) | (simp; omega) | omega) _) | (refine below_then ?_ (by first | (simp; done) | (simp; omega) | omega) hb1)))⟩
end Go.Proofs.YtpeenmbonhijmaaDoor.H
