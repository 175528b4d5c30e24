/- Boxes: what may be; box.box. -/
import Derived.Test.YtijdghplfhfpaaaDoorBoxA
import Derived.Test.YtijdghplfhfpaaaDoorKinds
import Derived.Test.YtijdghplfhfpaaaDoorBlk
import Derived.BigQuiet
namespace Go.Proofs.YtijdghplfhfpaaaDoor.H
open Go.RowKit Go.Proofs.YtijdghplfhfpaaaDoorW.PrintWords Go.Proofs.YtijdghplfhfpaaaDoorW.PrintLast Go.Proofs.YtijdghplfhfpaaaDoorW.PrintMore Go.Proofs.YtijdghplfhfpaaaDoor.U
set_option linter.unusedVariables false
set_option linter.unusedSimpArgs false
abbrev ABox := ByteArray × Int × List AMail
def kBox : Kd ABox := Kd.pair Kd.string (Kd.pair (Kd.int .i64) (Kd.slice 84 kAMail))
def mailBad (next last : Int) (m : AMail) : Prop := m.uid ≤ last ∨ next ≤ m.uid ∨ m.flags < 0 ∨ 31 < m.flags ∨ 2000 < m.text.size
instance (next last : Int) (m : AMail) : Decidable (mailBad next last m) := inferInstanceAs (Decidable (_ ∨ _))
def mailsOk (next : Int) : Int → List AMail → Bool
  | _, [] => true
  | last, m :: l => if mailBad next last m then false else mailsOk next m.uid l
def boxOk (b : ABox) : Bool := if nameFault b.1 ≠ 0 ∨ b.2.1 < 1 ∨ 1048577 < b.2.1 ∨ 30 < b.2.2.length then false else mailsOk b.2.1 0 b.2.2
theorem mails_bad {next last : Int} {l : List AMail} {k : Nat} (h : k < l.length) (h2 : mailBad next last l[k]) : mailsOk next last (l.drop k) = false := by
  rw [List.drop_eq_getElem_cons h, mailsOk, if_pos h2]
theorem mails_good {next last : Int} {l : List AMail} {k : Nat} (h : k < l.length) (h2 : ¬ mailBad next last l[k]) : mailsOk next last (l.drop k) = mailsOk next l[k].uid (l.drop (k + 1)) := by
  rw [List.drop_eq_getElem_cons h, mailsOk, if_neg h2]
theorem mails_end (next last : Int) (l : List AMail) : mailsOk next last (l.drop l.length) = true := by rw [List.drop_length]; rfl
theorem box_at {w : World} {A : Option Addr} {n : Nat} {xs : List ABox} (h : kBox.C w A n xs) (k : Nat) (hk : k < xs.length) :
    ∃ ad Ae ce, A = some ad ∧ w.cell? (ad.add (k * 3)) = some (.string xs[k].1) ∧ w.cell? (ad.add (k * 3 + 1)) = some (.int .i64 xs[k].2.1) ∧ w.cell? (ad.add (k * 3 + 2)) = some (.slice Ae xs[k].2.2.length ce) ∧ Kd.C kAMail w Ae xs[k].2.2.length xs[k].2.2 := by
  have hn : xs.length = n := h.1
  obtain ⟨ad, e, hc⟩ := h.2.2 (by omega)
  obtain ⟨cs, _, hK, hcell⟩ := hc k _ (List.getElem?_eq_getElem hk)
  obtain ⟨c0, c1, hcs, h0, ⟨c2, c3, h1, h2, ⟨Ae, ce, h3, _, hC⟩⟩⟩ := hK
  have h0' : c0 = [.string xs[k].1] := h0
  have h2' : c2 = [.int .i64 xs[k].2.1] := h2
  subst h0' h2' h3 h1 hcs
  exact ⟨ad, Ae, ce, e, hcell 0 _ rfl, hcell 1 _ rfl, hcell 2 _ rfl, hC⟩
set_option maxHeartbeats 1000000 in
set_option maxRecDepth 100000 in
theorem box_calls (nm : ByteArray) (nx : Int) (A : Option Addr) (c : Nat) (l : List AMail) (w : World) (hr : Kd.C kAMail w A l.length l) (hs : nm.size ≤ 1048576) :
    Calls Tryd.prog 46 #[.agg #[.string nm, .int .i64 nx, .slice A l.length c]] w fun e w' => e = .returned (.bool (boxOk (nm, nx, l))) ∧ Below w.heap.size w w' := by
  have HN := fun w => ruleName_calls nm w (by omega)
  have h63 := hr.2.1
  unfold boxOk
  simp only
  by_cases hf : nameFault nm = 0
  · rw [hf] at HN
    replace HN := Lib.hid HN
    by_cases h1 : nx < 1
    · rw [if_pos (.inr (.inl h1))]
      go_enter Tryd.func46, Tryd.ntmps46
      go_wp2_with (go_at_call 84; refine (HN.out _).mono ?_; rintro e w1 ⟨rfl, rfl⟩)
      go_ret
      exact ⟨(by first | rfl | (simp; done) | (simp [*]; done) | (rw [if_pos (by omega)]; first | rfl | (simp; done)) | (rw [if_neg (by omega)]; first | rfl | (simp; done)) | (simp; omega)), (by repeat (first | exact Below.refl _ _ | apply below_alloc | apply pw_below_drewN | apply below_drew1 | (refine Below.setCell ?_ (by first | (simp; done) | (simp; omega) | omega) _) ))⟩
    · by_cases h2 : 1048577 < nx
      · rw [if_pos (.inr (.inr (.inl h2)))]
        go_enter Tryd.func46, Tryd.ntmps46
        go_wp2_with (go_at_call 84; refine (HN.out _).mono ?_; rintro e w1 ⟨rfl, rfl⟩)
        go_ret
        exact ⟨(by first | rfl | (simp; done) | (simp [*]; done) | (rw [if_pos (by omega)]; first | rfl | (simp; done)) | (rw [if_neg (by omega)]; first | rfl | (simp; done)) | (simp; omega)), (by repeat (first | exact Below.refl _ _ | apply below_alloc | apply pw_below_drewN | apply below_drew1 | (refine Below.setCell ?_ (by first | (simp; done) | (simp; omega) | omega) _) ))⟩
      · by_cases h3 : 30 < l.length
        · rw [if_pos (.inr (.inr (.inr h3)))]
          have h3' : (30 : Int) < (l.length : Int) := by omega
          go_enter Tryd.func46, Tryd.ntmps46
          go_wp2_with (go_at_call 84; refine (HN.out _).mono ?_; rintro e w1 ⟨rfl, rfl⟩)
          go_ret
          exact ⟨(by first | rfl | (simp; done) | (simp [*]; done) | (rw [if_pos (by omega)]; first | rfl | (simp; done)) | (rw [if_neg (by omega)]; first | rfl | (simp; done)) | (simp; omega)), (by repeat (first | exact Below.refl _ _ | apply below_alloc | apply pw_below_drewN | apply below_drew1 | (refine Below.setCell ?_ (by first | (simp; done) | (simp; omega) | omega) _) ))⟩
        · rw [if_neg (by intro h; rcases h with h | h | h | h; exact h hf; exact h1 h; exact h2 h; exact h3 h)]
          have h3' : ¬ (30 : Int) < (l.length : Int) := by omega
          generalize hR : mailsOk nx 0 l = R
          clear hf h3
          go_enter Tryd.func46, Tryd.ntmps46
          go_wp2_with (go_at_call 84; refine (HN.out _).mono ?_; rintro e w1 ⟨rfl, rfl⟩)
          go_loopw [3, 29] (fun v i wr => ∃ (k : Nat) (last : Int), k ≤ l.length ∧ v = .int .i64 last ∧ i = .int .i64 k ∧ mailsOk nx last (l.drop k) = R ∧ Blk wr w.heap.size [.string nm, .int .i64 nx, .slice A l.length c] ∧ Below w.heap.size w wr) (fun _ i _ => l.length - (intOf i).toNat)
          case atStart => exact ⟨0, 0, Nat.zero_le _, rfl, rfl, hR, Blk.made w #[.string nm, .int .i64 nx, .slice A l.length c] _, (by repeat (first | exact Below.refl _ _ | apply below_alloc | apply pw_below_drewN | apply below_drew1 | (refine Below.setCell ?_ (by first | (simp; done) | (simp; omega) | omega) _) ))⟩
          case round =>
            clear hR
            obtain ⟨k, last, hk, rfl, rfl, hR, hblk, hB⟩ := hrel
            have hz := hblk.lt
            have b1 := hblk.at 1 _ rfl
            have b2 := hblk.at 2 _ rfl
            by_cases hlt : k < l.length
            · obtain ⟨ad, e1, hx0, hxj⟩ := flat_at (Kd.C_below hr hB) k hlt
              subst e1
              have q0 := hx0 _ rfl; have q1 := hxj 1 _ (by decide) rfl; have q2 := hxj 2 _ (by decide) rfl
              clear hx0 hxj
              have hbad := fun h => mails_bad (next := nx) (last := last) hlt h
              have hgood := fun h => mails_good (next := nx) (last := last) hlt h
              rw [hR] at hbad hgood
              have i0 : (0 : Int) ≤ (k : Int) := by omega
              have i1 : (k : Int) < (l.length : Int) := by omega
              generalize l[k] = x at *
              by_cases m1 : x.uid ≤ last
              · have := hbad (.inl m1)
                subst this
                go_wp2_with fail
                go_ret
                exact ⟨(by first | rfl | (simp; done) | (simp [*]; done) | (rw [if_pos (by omega)]; first | rfl | (simp; done)) | (rw [if_neg (by omega)]; first | rfl | (simp; done)) | (simp; omega)), (by repeat (first | exact Below.refl _ _ | apply below_alloc | apply pw_below_drewN | apply below_drew1 | (refine Below.setCell ?_ (by first | (simp; done) | (simp; omega) | omega) _) | exact hB))⟩
              · by_cases m2 : nx ≤ x.uid
                · have := hbad (.inr (.inl m2))
                  subst this
                  go_wp2_with fail
                  go_ret
                  exact ⟨(by first | rfl | (simp; done) | (simp [*]; done) | (rw [if_pos (by omega)]; first | rfl | (simp; done)) | (rw [if_neg (by omega)]; first | rfl | (simp; done)) | (simp; omega)), (by repeat (first | exact Below.refl _ _ | apply below_alloc | apply pw_below_drewN | apply below_drew1 | (refine Below.setCell ?_ (by first | (simp; done) | (simp; omega) | omega) _) | exact hB))⟩
                · by_cases m3 : x.flags < 0
                  · have := hbad (.inr (.inr (.inl m3)))
                    subst this
                    go_wp2_with fail
                    go_ret
                    exact ⟨(by first | rfl | (simp; done) | (simp [*]; done) | (rw [if_pos (by omega)]; first | rfl | (simp; done)) | (rw [if_neg (by omega)]; first | rfl | (simp; done)) | (simp; omega)), (by repeat (first | exact Below.refl _ _ | apply below_alloc | apply pw_below_drewN | apply below_drew1 | (refine Below.setCell ?_ (by first | (simp; done) | (simp; omega) | omega) _) | exact hB))⟩
                  · by_cases m4 : 31 < x.flags
                    · have := hbad (.inr (.inr (.inr (.inl m4))))
                      subst this
                      go_wp2_with fail
                      go_ret
                      exact ⟨(by first | rfl | (simp; done) | (simp [*]; done) | (rw [if_pos (by omega)]; first | rfl | (simp; done)) | (rw [if_neg (by omega)]; first | rfl | (simp; done)) | (simp; omega)), (by repeat (first | exact Below.refl _ _ | apply below_alloc | apply pw_below_drewN | apply below_drew1 | (refine Below.setCell ?_ (by first | (simp; done) | (simp; omega) | omega) _) | exact hB))⟩
                    · by_cases m5 : 2000 < x.text.size
                      · have := hbad (.inr (.inr (.inr (.inr m5))))
                        subst this
                        have m5' : (2000 : Int) < (x.text.size : Int) := by omega
                        go_wp2_with fail
                        go_ret
                        exact ⟨(by first | rfl | (simp; done) | (simp [*]; done) | (rw [if_pos (by omega)]; first | rfl | (simp; done)) | (rw [if_neg (by omega)]; first | rfl | (simp; done)) | (simp; omega)), (by repeat (first | exact Below.refl _ _ | apply below_alloc | apply pw_below_drewN | apply below_drew1 | (refine Below.setCell ?_ (by first | (simp; done) | (simp; omega) | omega) _) | exact hB))⟩
                      · have m5' : ¬ (2000 : Int) < (x.text.size : Int) := by omega
                        have hn := hgood (by intro h; rcases h with h | h | h | h | h; exact m1 h; exact m2 h; exact m3 h; exact m4 h; exact m5 h)
                        replace hn := Lib.hid hn
                        clear hbad hgood hR m5
                        go_wp2_with fail
                        go_roundw
                        case rel => exact ⟨k + 1, x.uid, hlt, rfl, by go_num, hn.out.symm, hblk.alloc _, (by repeat (first | exact Below.refl _ _ | apply below_alloc | apply pw_below_drewN | apply below_drew1 | (refine Below.setCell ?_ (by first | (simp; done) | (simp; omega) | omega) _) | exact hB))⟩
                        case measure => simp [intOf]; omega
            · obtain rfl : k = l.length := by omega
              rw [mails_end] at hR
              subst hR
              have i1 : ¬ (l.length : Int) < (l.length : Int) := by omega
              go_wp2_with fail
              go_ret
              exact ⟨(by first | rfl | (simp; done) | (simp [*]; done) | (rw [if_pos (by omega)]; first | rfl | (simp; done)) | (rw [if_neg (by omega)]; first | rfl | (simp; done)) | (simp; omega)), (by repeat (first | exact Below.refl _ _ | apply below_alloc | apply pw_below_drewN | apply below_drew1 | (refine Below.setCell ?_ (by first | (simp; done) | (simp; omega) | omega) _) | exact hB))⟩
  · have hfb : (nameFault nm != 0) = true := by simp [hf]
    rw [if_pos (.inl hf)]
    generalize nameFault nm = f at *
    clear hf
    replace HN := Lib.hid HN
    go_enter Tryd.func46, Tryd.ntmps46
    go_wp2_with (go_at_call 84; refine (HN.out _).mono ?_; rintro e w1 ⟨rfl, rfl⟩)
    go_ret
    exact ⟨(by first | rfl | (simp; done) | (simp [*]; done) | (rw [if_pos (by omega)]; first | rfl | (simp; done)) | (rw [if_neg (by omega)]; first | rfl | (simp; done)) | (simp; omega)), (by repeat (first | exact Below.refl _ _ | apply below_alloc | apply pw_below_drewN | apply below_drew1 | (refine Below.setCell ?_ (by first | (simp; done) | (simp; omega) | omega) _) ))⟩
end Go.Proofs.YtijdghplfhfpaaaDoor.H
