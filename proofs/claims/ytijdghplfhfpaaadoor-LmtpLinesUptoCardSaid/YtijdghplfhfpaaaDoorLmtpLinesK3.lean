/- The claim LmtpLinesUptoCardSaid, part 3 of 5. -/
import Derived.Test.YtijdghplfhfpaaaDoorLmtpLinesK2
import Derived.Test.YtijdghplfhfpaaaDoorLmtpLinesK1
/- Lines: what a command does: the program's walk. -/
namespace Go.Proofs.YtijdghplfhfpaaaDoor.H
open Go.RowKit Go.Proofs.YtijdghplfhfpaaaDoorW.PrintWords Go.Proofs.YtijdghplfhfpaaaDoorW.PrintLast Go.Proofs.YtijdghplfhfpaaaDoor.U
set_option linter.unusedVariables false
set_option linter.unusedSimpArgs false
theorem beh_size {line word t : ByteArray} (h : behV line word = some t) : t.size ≤ line.size := by
  unfold behV at h
  split at h
  · cases h; simp
  · cases h
theorem PostSes.grown {w w1 w2 : World} {b : Nat} {r : Ses × Int} {e : Ending} (h : PostSes w1 b r e w2) (hg : w.grownBy w1 (some b)) : PostSes w b r e w2 := ⟨h.1, h.2.1, grown_trans hg h.2.2⟩
/-- The whole block is written anew. -/
theorem ses_new {w : World} {b : Nat} {A : Option Addr} {c : Nat} {st : Int} {fr : AAddress} {to_ : List AAddress} {tx : ByteArray} {lg : Bool} (k : Int)
    (h : Blk w b [.int .i64 st, .string fr.loc, .string fr.dom, .slice A to_.length c, .string tx, .bool lg]) :
    SesAt ((((((w.setCell ⟨b, 0, none⟩ (.int .i64 k)).setCell ⟨b, 1, none⟩ (.string ⟨#[]⟩)).setCell ⟨b, 2, none⟩ (.string ⟨#[]⟩)).setCell ⟨b, 3, none⟩ (.slice none 0 0)).setCell ⟨b, 4, none⟩ (.string ⟨#[]⟩)).setCell ⟨b, 5, none⟩ (.bool false)) b (noSes k) :=
  ⟨none, 0, ((((((h.set 0 (.int .i64 k) (by simp)).set 1 (.string ⟨#[]⟩) (by simp)).set 2 (.string ⟨#[]⟩) (by simp)).set 3 (.slice none 0 0) (by simp)).set 4 (.string ⟨#[]⟩) (by simp)).set 5 (.bool false) (by simp)), Nat.le_refl _, fun _ _ => C_none _ _⟩
theorem ses_new_grown {w0 w : World} {b : Nat} (k : Int) (h : w0.grownBy w (some b)) :
    w0.grownBy ((((((w.setCell ⟨b, 0, none⟩ (.int .i64 k)).setCell ⟨b, 1, none⟩ (.string ⟨#[]⟩)).setCell ⟨b, 2, none⟩ (.string ⟨#[]⟩)).setCell ⟨b, 3, none⟩ (.slice none 0 0)).setCell ⟨b, 4, none⟩ (.string ⟨#[]⟩)).setCell ⟨b, 5, none⟩ (.bool false)) (some b) :=
  grown_set (grown_set (grown_set (grown_set (grown_set (grown_set h 0 _) 1 _) 2 _) 3 _) 4 _) 5 _
set_option maxHeartbeats 1000000 in
set_option maxRecDepth 100000 in
theorem command_calls (b : Nat) (s : Ses) (A0 : Option Addr) (c0 : Nat) (kn : List ByteArray) (line : ByteArray) (m : Int) (w : World) (hs : SesAt w b s) (h5 : s.to_.length ≤ 5) (hl : line.size ≤ 1048576) (hkn : ∀ w', w.grownBy w' (some b) → Kd.C Kd.string w' A0 kn.length kn) (hm : w.cell? ⟨6, 0, none⟩ = some (.int .i64 m)) (hg : 6 < w.heap.size) :
    Calls Tryd.prog 65 #[.pointer (some ⟨b, 0, none⟩), .string line, .slice A0 kn.length c0] w (PostSes w b (cmdV s kn line)) := by
  unfold cmdV
  by_cases h1 : 300 < line.size
  · rw [if_pos h1]
    have i1 : (300 : Int) < (line.size : Int) := by omega
    have h2 := Lib.hid hs
    clear hs
    go_enter Tryd.func65, Tryd.ntmps65
    go_wp2_with fail
    go_ret
    exact PostSes.same rfl h2.out (by repeat (first | exact Below.refl _ _ | apply below_alloc | apply pw_below_drewN | apply below_drew1 | (refine Below.setCell ?_ (by first | (simp; done) | (simp; omega) | omega) _) ))
  · rw [if_neg h1]
    have i1 : ¬ (300 : Int) < (line.size : Int) := by omega
    have hz : line.size ≤ 300 := by omega
    have HL := Lib.hid (fun w => rest_calls line (⟨#[76, 72, 76, 79, 32]⟩ : ByteArray) w hl (by decide))
    have HM := Lib.hid (fun w => rest_calls line (⟨#[77, 65, 73, 76, 32, 70, 82, 79, 77, 58]⟩ : ByteArray) w hl (by decide))
    have HR := Lib.hid (fun w => rest_calls line (⟨#[82, 67, 80, 84, 32, 84, 79, 58]⟩ : ByteArray) w hl (by decide))
    have z1 := fun t => beh_size (line := line) (word := (⟨#[76, 72, 76, 79, 32]⟩ : ByteArray)) (t := t)
    have z2 := fun t => beh_size (line := line) (word := (⟨#[77, 65, 73, 76, 32, 70, 82, 79, 77, 58]⟩ : ByteArray)) (t := t)
    have z3 := fun t => beh_size (line := line) (word := (⟨#[82, 67, 80, 84, 32, 84, 79, 58]⟩ : ByteArray)) (t := t)
    generalize behV line (⟨#[76, 72, 76, 79, 32]⟩ : ByteArray) = o1 at *
    generalize behV line (⟨#[77, 65, 73, 76, 32, 70, 82, 79, 77, 58]⟩ : ByteArray) = o2 at *
    generalize behV line (⟨#[82, 67, 80, 84, 32, 84, 79, 58]⟩ : ByteArray) = o3 at *
    have hbl : b < w.heap.size := by obtain ⟨_, _, hK, _⟩ := hs; exact hK.lt
    cases o1 with
    | some t =>
      have ht := z1 t rfl
      clear z1 z2 z3 HM HR h1
      simp only
      unfold lhloV
      have HC := Lib.hid (fun w hm hg => check_calls ⟨#[120]⟩ t m w (by decide) (by omega) hm hg)
      generalize addrFault ⟨#[120]⟩ t = f at *
      clear ht
      by_cases hf : f = 0
      · subst hf
        rw [if_pos rfl]
        go_enter Tryd.func65, Tryd.ntmps65
        go_wp2_with fail
        refine (HL.out _).mono ?_
        rintro e w1 ⟨rfl, hb1⟩
        go_wp2_with fail
        refine (HC.out _ (cell_below (B := w.heap.size) (by repeat (first | exact Below.refl _ _ | apply below_alloc | apply pw_below_drewN | apply below_drew1 | (refine Below.setCell ?_ (by first | (simp; done) | (simp; omega) | omega) _) | (refine below_then ?_ (by first | (simp; done) | (simp; omega) | omega) hb1))) hm hg) (by have := hb1.size; omega)).mono ?_
        rintro e w2 ⟨rfl, hb2⟩
        have hB2 : Below w.heap.size w w2 := hb1.trans (hb2.mono hb1.size)
        obtain ⟨A, c, hK, hc, hT⟩ := hs
        have hK2 := hK.below hB2 hbl
        have b0 := (hK2).at 0 _ rfl
        have g0 := (hK2).free 0 _ rfl
        have g1 := (hK2).free 1 _ rfl
        have g2 := (hK2).free 2 _ rfl
        have g3 := (hK2).free 3 _ rfl
        have g4 := (hK2).free 4 _ rfl
        have g5 := (hK2).free 5 _ rfl
        have q1 := (hK2).at 1 _ rfl
        have q2 := (hK2).at 2 _ rfl
        have q3 := (hK2).at 3 _ rfl
        have q4 := (hK2).at 4 _ rfl
        have q5 := (hK2).at 5 _ rfl
        have bl := (hK2).lt
        clear hc hT
        go_wp2_with fail
        go_ret
        exact ⟨rfl, ses_new 1 hK2, ses_new_grown 1 (grown_more (World.grownBy.refl _ _) hB2 (Nat.le_refl _))⟩
      · rw [if_neg hf]
        have hfb : (f != 0) = true := bne_iff_ne.mpr hf
        have h2 := Lib.hid hs
        clear hs hf
        go_enter Tryd.func65, Tryd.ntmps65
        go_wp2_with fail
        refine (HL.out _).mono ?_
        rintro e w1 ⟨rfl, hb1⟩
        go_wp2_with fail
        refine (HC.out _ (cell_below (B := w.heap.size) (by repeat (first | exact Below.refl _ _ | apply below_alloc | apply pw_below_drewN | apply below_drew1 | (refine Below.setCell ?_ (by first | (simp; done) | (simp; omega) | omega) _) | (refine below_then ?_ (by first | (simp; done) | (simp; omega) | omega) hb1))) hm hg) (by have := hb1.size; omega)).mono ?_
        rintro e w2 ⟨rfl, hb2⟩
        have hB2 : Below w.heap.size w w2 := hb1.trans (hb2.mono hb1.size)
        go_wp2_with fail
        go_ret
        exact PostSes.same rfl h2.out hB2
    | none =>
      clear z1
      cases o2 with
      | some t =>
        have ht := z2 t rfl
        clear z2 z3 HR h1
        simp only
        have HX := Lib.hid (fun w hs hm hg => mail_calls b s t m w hs (by omega) hm hg)
        generalize hr : mailV s t = r at *
        replace hr := Lib.hid hr
        have h2 := Lib.hid hs
        clear hs ht
        go_enter Tryd.func65, Tryd.ntmps65
        go_wp2_with fail
        refine (HL.out _).mono ?_
        rintro e w1 ⟨rfl, hb1⟩
        go_wp2_with fail
        refine (HM.out _).mono ?_
        rintro e w2 ⟨rfl, hb2⟩
        have hB2 : Below w.heap.size w w2 := hb1.trans (hb2.mono hb1.size)
        go_wp2_with fail
        refine (HX.out _ (h2.out.below hB2 hbl (Nat.le_refl _)) (cell_below (B := w.heap.size) hB2 hm hg) (by have := hB2.size; omega)).mono ?_
        rintro e w3 hP
        obtain ⟨rfl, hS, hG⟩ := hP
        replace hS := Lib.hid hS
        go_wp2_with fail
        go_ret
        exact ⟨rfl, hS.out, grown_trans (grown_more (World.grownBy.refl _ _) hB2 (Nat.le_refl _)) hG⟩
      | none =>
        clear z2
        cases o3 with
        | some t =>
          have ht := z3 t rfl
          clear z3 h1
          simp only
          have HX := Lib.hid (fun w hs hkn hm hg => rcpt_calls b s t A0 c0 kn m w hs h5 (by omega) hkn hm hg)
          generalize hr : rcptV s kn t = r at *
          replace hr := Lib.hid hr
          have h2 := Lib.hid hs
          replace hkn := Lib.hid hkn
          clear hs ht
          go_enter Tryd.func65, Tryd.ntmps65
          go_wp2_with fail
          refine (HL.out _).mono ?_
          rintro e w1 ⟨rfl, hb1⟩
          go_wp2_with fail
          refine (HM.out _).mono ?_
          rintro e w2 ⟨rfl, hb2⟩
          go_wp2_with fail
          refine (HR.out _).mono ?_
          rintro e w3 ⟨rfl, hb3⟩
          have hB3 : Below w.heap.size w w3 := (hb1.trans (hb2.mono hb1.size)).trans (hb3.mono (by have := hb1.size; have := hb2.size; omega))
          have hg3 := grown_more (World.grownBy.refl w (some b)) hB3 (Nat.le_refl _)
          go_wp2_with fail
          refine (HX.out _ (h2.out.below hB3 hbl (Nat.le_refl _)) (fun w' h' => hkn.out w' (grown_trans hg3 h')) (cell_below (B := w.heap.size) hB3 hm hg) (by have := hB3.size; omega)).mono ?_
          rintro e w4 hP
          obtain ⟨rfl, hS, hG⟩ := hP
          replace hS := Lib.hid hS
          go_wp2_with fail
          go_ret
          exact ⟨rfl, hS.out, grown_trans hg3 hG⟩
        | none =>
          clear z3
          simp only
          have HF := Lib.hid (fun w => Fold_calls line w (by omega))
          rw [show foldR line = lowS line by rw [foldR, if_pos (by omega)]] at HF
          unfold wordV
          generalize lowS line = L at *
          generalize foldE line = E at *
          have h2 := Lib.hid hs
          clear hs h1 hz
          obtain ⟨st, fr, to_, tx, lg⟩ := s
          simp only at h2 h5 ⊢
          by_cases e1 : L = (⟨#[100, 97, 116, 97]⟩ : ByteArray)
          · rw [if_pos e1]
            subst e1
            by_cases h3 : st = 3
            · rw [if_pos h3]
              subst h3
              skip
              go_enter Tryd.func65, Tryd.ntmps65
              go_wp2_with fail
              refine (HL.out _).mono ?_
              rintro e w1 ⟨rfl, hb1⟩
              go_wp2_with fail
              refine (HM.out _).mono ?_
              rintro e w2 ⟨rfl, hb2⟩
              go_wp2_with fail
              refine (HR.out _).mono ?_
              rintro e w3 ⟨rfl, hb3⟩
              have hB3 : Below w.heap.size w w3 := (hb1.trans (hb2.mono hb1.size)).trans (hb3.mono (by have := hb1.size; have := hb2.size; omega))
              go_wp2_with fail
              refine (HF.out _).mono ?_
              rintro e w4 ⟨rfl, hb4⟩
              have hB4 : Below w.heap.size w w4 := hB3.trans (hb4.mono hB3.size)
              have hg4 := grown_more (World.grownBy.refl w (some b)) hB4 (Nat.le_refl _)
              obtain ⟨A, c, hK, hc, hT⟩ := h2.out
              have hK4 := hK.below hB4 hbl
              have hT4 := hT.grown hg4
              have b0 := (hK4).at 0 _ rfl
              have g0 := (hK4).free 0 _ rfl
              have g1 := (hK4).free 1 _ rfl
              have g2 := (hK4).free 2 _ rfl
              have g3 := (hK4).free 3 _ rfl
              have g4 := (hK4).free 4 _ rfl
              have g5 := (hK4).free 5 _ rfl
              have q1 := (hK4).at 1 _ rfl
              have q2 := (hK4).at 2 _ rfl
              have q3 := (hK4).at 3 _ rfl
              have q4 := (hK4).at 4 _ rfl
              have q5 := (hK4).at 5 _ rfl
              have bl := (hK4).lt
              replace hc := Lib.hid hc
              replace hT4 := Lib.hid hT4
              clear hT
              go_wp2_with fail
              go_ret
              exact ⟨rfl, ⟨A, c, hK4.set 0 (.int .i64 4) (by simp), hc.out, hT4.out.grown (grown_set (World.grownBy.refl _ _) 0 (.int .i64 4))⟩, grown_set hg4 0 (.int .i64 4)⟩
            · rw [if_neg h3]
              have i3 : (st != 3) = true := bne_iff_ne.mpr h3
              skip
              go_enter Tryd.func65, Tryd.ntmps65
              go_wp2_with fail
              refine (HL.out _).mono ?_
              rintro e w1 ⟨rfl, hb1⟩
              go_wp2_with fail
              refine (HM.out _).mono ?_
              rintro e w2 ⟨rfl, hb2⟩
              go_wp2_with fail
              refine (HR.out _).mono ?_
              rintro e w3 ⟨rfl, hb3⟩
              have hB3 : Below w.heap.size w w3 := (hb1.trans (hb2.mono hb1.size)).trans (hb3.mono (by have := hb1.size; have := hb2.size; omega))
              go_wp2_with fail
              refine (HF.out _).mono ?_
              rintro e w4 ⟨rfl, hb4⟩
              have hB4 : Below w.heap.size w w4 := hB3.trans (hb4.mono hB3.size)
              have hg4 := grown_more (World.grownBy.refl w (some b)) hB4 (Nat.le_refl _)
              obtain ⟨A, c, hK, hc, hT⟩ := h2.out
              have hK4 := hK.below hB4 hbl
              have hT4 := hT.grown hg4
              have b0 := (hK4).at 0 _ rfl
              have g0 := (hK4).free 0 _ rfl
              have g1 := (hK4).free 1 _ rfl
              have g2 := (hK4).free 2 _ rfl
              have g3 := (hK4).free 3 _ rfl
              have g4 := (hK4).free 4 _ rfl
              have g5 := (hK4).free 5 _ rfl
              have q1 := (hK4).at 1 _ rfl
              have q2 := (hK4).at 2 _ rfl
              have q3 := (hK4).at 3 _ rfl
              have q4 := (hK4).at 4 _ rfl
              have q5 := (hK4).at 5 _ rfl
              have bl := (hK4).lt
              replace hc := Lib.hid hc
              replace hT4 := Lib.hid hT4
              clear hT
              go_wp2_with fail
              go_ret
              exact PostSes.same (s := ⟨st, fr, to_, tx, lg⟩) rfl h2.out hB4
          · rw [if_neg e1]
            have n1 := lit_no (l := [100, 97, 116, 97]) e1
            by_cases e2 : L = (⟨#[114, 115, 101, 116]⟩ : ByteArray)
            · rw [if_pos e2]
              clear n1 e1
              subst e2
              skip
              go_enter Tryd.func65, Tryd.ntmps65
              go_wp2_with fail
              refine (HL.out _).mono ?_
              rintro e w1 ⟨rfl, hb1⟩
              go_wp2_with fail
              refine (HM.out _).mono ?_
              rintro e w2 ⟨rfl, hb2⟩
              go_wp2_with fail
              refine (HR.out _).mono ?_
              rintro e w3 ⟨rfl, hb3⟩
              have hB3 : Below w.heap.size w w3 := (hb1.trans (hb2.mono hb1.size)).trans (hb3.mono (by have := hb1.size; have := hb2.size; omega))
              go_wp2_with fail
              refine (HF.out _).mono ?_
              rintro e w4 ⟨rfl, hb4⟩
              have hB4 : Below w.heap.size w w4 := hB3.trans (hb4.mono hB3.size)
              have hg4 := grown_more (World.grownBy.refl w (some b)) hB4 (Nat.le_refl _)
              obtain ⟨A, c, hK, hc, hT⟩ := h2.out
              have hK4 := hK.below hB4 hbl
              have hT4 := hT.grown hg4
              have b0 := (hK4).at 0 _ rfl
              have g0 := (hK4).free 0 _ rfl
              have g1 := (hK4).free 1 _ rfl
              have g2 := (hK4).free 2 _ rfl
              have g3 := (hK4).free 3 _ rfl
              have g4 := (hK4).free 4 _ rfl
              have g5 := (hK4).free 5 _ rfl
              have q1 := (hK4).at 1 _ rfl
              have q2 := (hK4).at 2 _ rfl
              have q3 := (hK4).at 3 _ rfl
              have q4 := (hK4).at 4 _ rfl
              have q5 := (hK4).at 5 _ rfl
              have bl := (hK4).lt
              replace hc := Lib.hid hc
              replace hT4 := Lib.hid hT4
              clear hT
              by_cases h0 : st ≤ 1
              · have hmin : min st 1 = st := by omega
                go_wp2_with fail
                go_ret
                exact ⟨rfl, by show SesAt _ b (noSes (min st 1)); rw [hmin]; exact ses_new _ hK4, ses_new_grown _ hg4⟩
              · have hmin : min st 1 = 1 := by omega
                go_wp2_with fail
                go_ret
                exact ⟨rfl, by show SesAt _ b (noSes (min st 1)); rw [hmin]; exact ses_new _ hK4, ses_new_grown _ hg4⟩
            · rw [if_neg e2]
              have n2 := lit_no (l := [114, 115, 101, 116]) e2
              by_cases e3 : L = (⟨#[110, 111, 111, 112]⟩ : ByteArray)
              · rw [if_pos e3]
                clear n1 n2 e1 e2
                subst e3
                skip
                go_enter Tryd.func65, Tryd.ntmps65
                go_wp2_with fail
                refine (HL.out _).mono ?_
                rintro e w1 ⟨rfl, hb1⟩
                go_wp2_with fail
                refine (HM.out _).mono ?_
                rintro e w2 ⟨rfl, hb2⟩
                go_wp2_with fail
                refine (HR.out _).mono ?_
                rintro e w3 ⟨rfl, hb3⟩
                have hB3 : Below w.heap.size w w3 := (hb1.trans (hb2.mono hb1.size)).trans (hb3.mono (by have := hb1.size; have := hb2.size; omega))
                go_wp2_with fail
                refine (HF.out _).mono ?_
                rintro e w4 ⟨rfl, hb4⟩
                have hB4 : Below w.heap.size w w4 := hB3.trans (hb4.mono hB3.size)
                have hg4 := grown_more (World.grownBy.refl w (some b)) hB4 (Nat.le_refl _)
                go_wp2_with fail
                go_ret
                exact PostSes.same (s := ⟨st, fr, to_, tx, lg⟩) rfl h2.out hB4
              · rw [if_neg e3]
                have n3 := lit_no (l := [110, 111, 111, 112]) e3
                by_cases e4 : L = (⟨#[113, 117, 105, 116]⟩ : ByteArray)
                · rw [if_pos e4]
                  clear n1 n2 n3 e1 e2 e3
                  subst e4
                  skip
                  go_enter Tryd.func65, Tryd.ntmps65
                  go_wp2_with fail
                  refine (HL.out _).mono ?_
                  rintro e w1 ⟨rfl, hb1⟩
                  go_wp2_with fail
                  refine (HM.out _).mono ?_
                  rintro e w2 ⟨rfl, hb2⟩
                  go_wp2_with fail
                  refine (HR.out _).mono ?_
                  rintro e w3 ⟨rfl, hb3⟩
                  have hB3 : Below w.heap.size w w3 := (hb1.trans (hb2.mono hb1.size)).trans (hb3.mono (by have := hb1.size; have := hb2.size; omega))
                  go_wp2_with fail
                  refine (HF.out _).mono ?_
                  rintro e w4 ⟨rfl, hb4⟩
                  have hB4 : Below w.heap.size w w4 := hB3.trans (hb4.mono hB3.size)
                  have hg4 := grown_more (World.grownBy.refl w (some b)) hB4 (Nat.le_refl _)
                  obtain ⟨A, c, hK, hc, hT⟩ := h2.out
                  have hK4 := hK.below hB4 hbl
                  have hT4 := hT.grown hg4
                  have b0 := (hK4).at 0 _ rfl
                  have g0 := (hK4).free 0 _ rfl
                  have g1 := (hK4).free 1 _ rfl
                  have g2 := (hK4).free 2 _ rfl
                  have g3 := (hK4).free 3 _ rfl
                  have g4 := (hK4).free 4 _ rfl
                  have g5 := (hK4).free 5 _ rfl
                  have q1 := (hK4).at 1 _ rfl
                  have q2 := (hK4).at 2 _ rfl
                  have q3 := (hK4).at 3 _ rfl
                  have q4 := (hK4).at 4 _ rfl
                  have q5 := (hK4).at 5 _ rfl
                  have bl := (hK4).lt
                  replace hc := Lib.hid hc
                  replace hT4 := Lib.hid hT4
                  clear hT
                  go_wp2_with fail
                  go_ret
                  exact ⟨rfl, ses_new 5 hK4, ses_new_grown 5 hg4⟩
                · rw [if_neg e4]
                  have n4 := lit_no (l := [113, 117, 105, 116]) e4
                  clear e1 e2 e3 e4
                  skip
                  go_enter Tryd.func65, Tryd.ntmps65
                  go_wp2_with fail
                  refine (HL.out _).mono ?_
                  rintro e w1 ⟨rfl, hb1⟩
                  go_wp2_with fail
                  refine (HM.out _).mono ?_
                  rintro e w2 ⟨rfl, hb2⟩
                  go_wp2_with fail
                  refine (HR.out _).mono ?_
                  rintro e w3 ⟨rfl, hb3⟩
                  have hB3 : Below w.heap.size w w3 := (hb1.trans (hb2.mono hb1.size)).trans (hb3.mono (by have := hb1.size; have := hb2.size; omega))
                  go_wp2_with fail
                  refine (HF.out _).mono ?_
                  rintro e w4 ⟨rfl, hb4⟩
                  have hB4 : Below w.heap.size w w4 := hB3.trans (hb4.mono hB3.size)
                  have hg4 := grown_more (World.grownBy.refl w (some b)) hB4 (Nat.le_refl _)
                  go_wp2_with fail
                  go_ret
                  exact PostSes.same (s := ⟨st, fr, to_, tx, lg⟩) rfl h2.out hB4
end Go.Proofs.YtijdghplfhfpaaaDoor.H

/- Lines: what a command does: the reference's walk. -/
namespace Go.Proofs.YtijdghplfhfpaaaDoor.H
open Go.RowKit Go.Proofs.YtijdghplfhfpaaaDoorW.PrintWords Go.Proofs.YtijdghplfhfpaaaDoorW.PrintLast Go.Proofs.YtijdghplfhfpaaaDoor.U
set_option linter.unusedVariables false
set_option linter.unusedSimpArgs false
def SesV (A : Option Addr) (c : Nat) (s : Ses) : Value := .agg #[.int .i64 s.st, .string s.fr.loc, .string s.fr.dom, .slice A s.to_.length c, .string s.tx, .bool s.lg]
/-- A session and a code are handed back; its list is the one that was given, or one of the call's own. -/
def PostCmd (w : World) (A0 : Option Addr) (l0 : List AAddress) (r : Ses × Int) (e : Ending) (w' : World) : Prop := ∃ A c, e = .returned (.tuple #[SesV A c r.1, .int .i64 r.2]) ∧ r.1.to_.length ≤ c ∧ ((A = A0 ∧ r.1.to_ = l0) ∨ Kd.R kAAddress 49 w' w.heap.size (fun _ => True) (.slice A r.1.to_.length c) r.1.to_) ∧ Below w.heap.size w w'
theorem postCmd_same {w w' : World} {A : Option Addr} {c : Nat} {st : Int} {fr : AAddress} {to_ : List AAddress} {tx : ByteArray} {lg : Bool} {k : Int} {e : Ending}
    (he : e = .returned (.tuple #[.agg #[.int .i64 st, .string fr.loc, .string fr.dom, .slice A to_.length c, .string tx, .bool lg], .int .i64 k])) (hc : to_.length ≤ c) (hb : Below w.heap.size w w') : PostCmd w A to_ (⟨st, fr, to_, tx, lg⟩, k) e w' :=
  ⟨A, c, he, hc, .inl ⟨rfl, rfl⟩, hb⟩
theorem postCmd_new {w w' : World} {A0 : Option Addr} {l0 : List AAddress} {st : Int} {fr : AAddress} {k : Int} {e : Ending}
    (he : e = .returned (.tuple #[.agg #[.int .i64 st, .string fr.loc, .string fr.dom, .slice none 0 0, .string ⟨#[]⟩, .bool false], .int .i64 k])) (hb : Below w.heap.size w w') : PostCmd w A0 l0 (⟨st, fr, [], ⟨#[]⟩, false⟩, k) e w' :=
  ⟨none, 0, he, Nat.le_refl _, .inr (Kd.R_nil _ _ _ _ _), hb⟩
theorem below_six {w w1 : World} {N b : Nat} {v0 v1 v2 v3 v4 v5 : Value} (h : Below N w w1) (hb : N ≤ b) :
    Below N w ((((((w1.setCell ⟨b, 0, none⟩ v0).setCell ⟨b, 1, none⟩ v1).setCell ⟨b, 2, none⟩ v2).setCell ⟨b, 3, none⟩ v3).setCell ⟨b, 4, none⟩ v4).setCell ⟨b, 5, none⟩ v5) :=
  (((((h.setCell hb v0).setCell hb v1).setCell hb v2).setCell hb v3).setCell hb v4).setCell hb v5
theorem below_sixA {w w1 : World} {b : Nat} {v0 v1 v2 v3 v4 v5 : Value} {o : Obj} (h : Below w.heap.size w w1) (hb : w.heap.size ≤ b) :
    Below w.heap.size w (((((((w1.setCell ⟨b, 0, none⟩ v0).setCell ⟨b, 1, none⟩ v1).setCell ⟨b, 2, none⟩ v2).setCell ⟨b, 3, none⟩ v3).setCell ⟨b, 4, none⟩ v4).setCell ⟨b, 5, none⟩ v5).alloc o) :=
  (below_six h hb).alloc (below_six h hb).size o
theorem elder_six {w1 : World} {base b : Nat} {v : Value} {xs : List AAddress} {v0 v1 v2 v3 v4 v5 : Value} (h : Kd.R kAAddress 49 w1 base (fun _ => True) v xs) (hb : b < base) :
    Kd.R kAAddress 49 ((((((w1.setCell ⟨b, 0, none⟩ v0).setCell ⟨b, 1, none⟩ v1).setCell ⟨b, 2, none⟩ v2).setCell ⟨b, 3, none⟩ v3).setCell ⟨b, 4, none⟩ v4).setCell ⟨b, 5, none⟩ v5) base (fun _ => True) v xs :=
  R_elder (R_elder (R_elder (R_elder (R_elder (R_elder h hb _) hb _) hb _) hb _) hb _) hb _
theorem postCmd_R {w w' : World} {A0 : Option Addr} {l0 : List AAddress} {base : Nat} {A : Option Addr} {n c : Nat} {st : Int} {fr : AAddress} {l : List AAddress} {k : Int} {e : Ending} (hR : Kd.R kAAddress 49 w' base (fun _ => True) (.slice A n c) l)
    (he : e = .returned (.tuple #[.agg #[.int .i64 st, .string fr.loc, .string fr.dom, .slice A n c, .string ⟨#[]⟩, .bool false], .int .i64 k])) (hb : Below w.heap.size w w') (hbase : w.heap.size ≤ base) : PostCmd w A0 l0 (⟨st, fr, l, ⟨#[]⟩, false⟩, k) e w' := by
  obtain ⟨rfl, h2, h3⟩ := Kd.R_reads' hR
  exact ⟨A, c, he, h2, .inr (Kd.R_lower hR hbase), hb⟩
set_option maxHeartbeats 1000000 in
set_option maxRecDepth 100000 in
theorem commanded_long (A : Option Addr) (c : Nat) (A0 : Option Addr) (c0 : Nat) (kn : List ByteArray) (line : ByteArray) (w : World) (st : Int) (fr : AAddress) (to_ : List AAddress) (tx : ByteArray) (lg : Bool) (hr : Kd.C kAAddress w A to_.length to_) (hc : to_.length ≤ c) (h1 : 300 < line.size) : Calls Tryd.prog 68 #[.agg #[.int .i64 st, .string fr.loc, .string fr.dom, .slice A to_.length c, .string tx, .bool lg], .slice A0 kn.length c0, .string line] w (PostCmd w A to_ (⟨st, fr, to_, tx, lg⟩, 500)) := by
  replace hr := Lib.hid hr
  replace hc := Lib.hid hc
  have i1 : (300 : Int) < (line.size : Int) := by omega
  have hK' : Blk ((w.alloc (.cells #[.int .i64 st, .string fr.loc, .string fr.dom, .slice A to_.length c, .string tx, .bool lg] 52)).alloc (.cells #[.int .i64 0, .string ⟨#[]⟩, .string ⟨#[]⟩, .slice none 0 0, .string ⟨#[]⟩, .bool false] 52)) w.heap.size [.int .i64 st, .string fr.loc, .string fr.dom, .slice A to_.length c, .string tx, .bool lg] := (Blk.made w _ _).alloc _
  have hZ' : Blk ((w.alloc (.cells #[.int .i64 st, .string fr.loc, .string fr.dom, .slice A to_.length c, .string tx, .bool lg] 52)).alloc (.cells #[.int .i64 0, .string ⟨#[]⟩, .string ⟨#[]⟩, .slice none 0 0, .string ⟨#[]⟩, .bool false] 52)) (w.heap.size + 1) [.int .i64 0, .string ⟨#[]⟩, .string ⟨#[]⟩, .slice none 0 0, .string ⟨#[]⟩, .bool false] := Blk.made_at _ _ _ (by simp)
  have k0 := hK'.at 0 _ rfl
  have k1 := hK'.at 1 _ rfl
  have k2 := hK'.at 2 _ rfl
  have k3 := hK'.at 3 _ rfl
  have k4 := hK'.at 4 _ rfl
  have k5 := hK'.at 5 _ rfl
  have z0 := hZ'.at 0 _ rfl
  have z1 := hZ'.at 1 _ rfl
  have z2 := hZ'.at 2 _ rfl
  have z3 := hZ'.at 3 _ rfl
  have z4 := hZ'.at 4 _ rfl
  have z5 := hZ'.at 5 _ rfl
  have f0 := hZ'.free 0 _ rfl
  have f1 := hZ'.free 1 _ rfl
  have f2 := hZ'.free 2 _ rfl
  have f3 := hZ'.free 3 _ rfl
  have f4 := hZ'.free 4 _ rfl
  have f5 := hZ'.free 5 _ rfl
  have kl := hK'.lt
  have fl := hZ'.lt
  go_enter Tryd.func68, Tryd.ntmps68
  skip
  go_wp2_with fail
  refine bodyPost_ret (v := .tuple #[.agg #[.int .i64 st, .string fr.loc, .string fr.dom, .slice A to_.length c, .string tx, .bool lg], .int .i64 500]) (by simp [results, Tryd.results68, go_sem, *]) rfl (postCmd_same rfl hc.out (by repeat (first | exact Below.refl _ _ | apply below_alloc | apply pw_below_drewN | apply below_drew1 | (refine Below.setCell ?_ (by first | (simp; done) | (simp; omega) | omega) _) )))
set_option maxHeartbeats 1000000 in
set_option maxRecDepth 100000 in
theorem commanded_lhlo (A : Option Addr) (c : Nat) (A0 : Option Addr) (c0 : Nat) (kn : List ByteArray) (line : ByteArray) (w : World) (st : Int) (fr : AAddress) (to_ : List AAddress) (tx : ByteArray) (lg : Bool) (hr : Kd.C kAAddress w A to_.length to_) (hc : to_.length ≤ c) (hz : line.size ≤ 300) (t : ByteArray) (o1 : behV line (⟨#[76, 72, 76, 79, 32]⟩ : ByteArray) = some t) : Calls Tryd.prog 68 #[.agg #[.int .i64 st, .string fr.loc, .string fr.dom, .slice A to_.length c, .string tx, .bool lg], .slice A0 kn.length c0, .string line] w (PostCmd w A to_ (lhloV ⟨st, fr, to_, tx, lg⟩ t)) := by
  replace hr := Lib.hid hr
  replace hc := Lib.hid hc
  have ht := beh_size o1
  have i1 : ¬ (300 : Int) < (line.size : Int) := by omega
  have HL := Lib.hid (fun w => behind_calls line (⟨#[76, 72, 76, 79, 32]⟩ : ByteArray) w (by omega) (by decide))
  rw [o1] at HL
  clear o1
  unfold lhloV
  have HC := Lib.hid (fun w => addressFault_calls ⟨#[120]⟩ t w (by decide) (by omega))
  generalize addrFault ⟨#[120]⟩ t = f at *
  clear ht
  by_cases hf : f = 0
  · subst hf
    rw [if_pos rfl]
    skip
    skip
    go_enter Tryd.func68, Tryd.ntmps68
    go_wp2_with fail
    obtain ⟨W, hW⟩ : ∃ W : World, W = (w.alloc (.cells #[.int .i64 st, .string fr.loc, .string fr.dom, .slice A to_.length c, .string tx, .bool lg] 52)).alloc (.cells #[.int .i64 0, .string ⟨#[]⟩, .string ⟨#[]⟩, .slice none 0 0, .string ⟨#[]⟩, .bool false] 52) := ⟨_, rfl⟩
    have hK : Blk W w.heap.size [.int .i64 st, .string fr.loc, .string fr.dom, .slice A to_.length c, .string tx, .bool lg] := by rw [hW]; exact (Blk.made w _ _).alloc _
    have hZ : Blk W (w.heap.size + 1) [.int .i64 0, .string ⟨#[]⟩, .string ⟨#[]⟩, .slice none 0 0, .string ⟨#[]⟩, .bool false] := by rw [hW]; exact Blk.made_at _ _ _ (by simp)
    have hb0 : Below w.heap.size w W := by rw [hW]; exact (by repeat (first | exact Below.refl _ _ | apply below_alloc | apply pw_below_drewN | apply below_drew1 | (refine Below.setCell ?_ (by first | (simp; done) | (simp; omega) | omega) _) ))
    have hz0 : W.heap.size = w.heap.size + 2 := by rw [hW]; simp
    rw [← hW]
    replace hW := Lib.hid hW
    have HZ0 := Lib.hid hz0
    have zz1 : w.heap.size + 1 < W.heap.size := by omega
    have zz0 : w.heap.size < W.heap.size := by omega
    clear hz0
    refine (HL.out _).mono ?_
    rintro e w1 ⟨rfl, hb1⟩
    have hB1 : Below w.heap.size w w1 := hb0.trans (hb1.mono (by have := hb0.size; omega))
    have hS1 : Below W.heap.size W w1 := hb1
    go_wp2_with fail
    refine (HC.out _).mono ?_
    rintro e w2 ⟨rfl, hb2⟩
    have hB2 : Below w.heap.size w w2 := hB1.trans (hb2.mono hB1.size)
    have hK' := hK.below (hS1.trans (hb2.mono hS1.size)) zz0
    have hZ' := hZ.below (hS1.trans (hb2.mono hS1.size)) zz1
    have k0 := hK'.at 0 _ rfl
    have k1 := hK'.at 1 _ rfl
    have k2 := hK'.at 2 _ rfl
    have k3 := hK'.at 3 _ rfl
    have k4 := hK'.at 4 _ rfl
    have k5 := hK'.at 5 _ rfl
    have z0 := hZ'.at 0 _ rfl
    have z1 := hZ'.at 1 _ rfl
    have z2 := hZ'.at 2 _ rfl
    have z3 := hZ'.at 3 _ rfl
    have z4 := hZ'.at 4 _ rfl
    have z5 := hZ'.at 5 _ rfl
    have f0 := hZ'.free 0 _ rfl
    have f1 := hZ'.free 1 _ rfl
    have f2 := hZ'.free 2 _ rfl
    have f3 := hZ'.free 3 _ rfl
    have f4 := hZ'.free 4 _ rfl
    have f5 := hZ'.free 5 _ rfl
    have kl := hK'.lt
    have fl := hZ'.lt
    go_wp2_with fail
    refine bodyPost_ret (v := .tuple #[.agg #[.int .i64 1, .string ⟨#[]⟩, .string ⟨#[]⟩, .slice none 0 0, .string ⟨#[]⟩, .bool false], .int .i64 250]) (by simp [results, Tryd.results68, go_sem, *]) rfl (postCmd_new (fr := ⟨⟨#[]⟩, ⟨#[]⟩⟩) rfl (below_six hB2 (Nat.le_succ _)))
  · rw [if_neg hf]
    have hfb : (f != 0) = true := bne_iff_ne.mpr hf
    clear hf
    skip
    skip
    go_enter Tryd.func68, Tryd.ntmps68
    go_wp2_with fail
    obtain ⟨W, hW⟩ : ∃ W : World, W = (w.alloc (.cells #[.int .i64 st, .string fr.loc, .string fr.dom, .slice A to_.length c, .string tx, .bool lg] 52)).alloc (.cells #[.int .i64 0, .string ⟨#[]⟩, .string ⟨#[]⟩, .slice none 0 0, .string ⟨#[]⟩, .bool false] 52) := ⟨_, rfl⟩
    have hK : Blk W w.heap.size [.int .i64 st, .string fr.loc, .string fr.dom, .slice A to_.length c, .string tx, .bool lg] := by rw [hW]; exact (Blk.made w _ _).alloc _
    have hZ : Blk W (w.heap.size + 1) [.int .i64 0, .string ⟨#[]⟩, .string ⟨#[]⟩, .slice none 0 0, .string ⟨#[]⟩, .bool false] := by rw [hW]; exact Blk.made_at _ _ _ (by simp)
    have hb0 : Below w.heap.size w W := by rw [hW]; exact (by repeat (first | exact Below.refl _ _ | apply below_alloc | apply pw_below_drewN | apply below_drew1 | (refine Below.setCell ?_ (by first | (simp; done) | (simp; omega) | omega) _) ))
    have hz0 : W.heap.size = w.heap.size + 2 := by rw [hW]; simp
    rw [← hW]
    replace hW := Lib.hid hW
    have HZ0 := Lib.hid hz0
    have zz1 : w.heap.size + 1 < W.heap.size := by omega
    have zz0 : w.heap.size < W.heap.size := by omega
    clear hz0
    refine (HL.out _).mono ?_
    rintro e w1 ⟨rfl, hb1⟩
    have hB1 : Below w.heap.size w w1 := hb0.trans (hb1.mono (by have := hb0.size; omega))
    have hS1 : Below W.heap.size W w1 := hb1
    go_wp2_with fail
    refine (HC.out _).mono ?_
    rintro e w2 ⟨rfl, hb2⟩
    have hB2 : Below w.heap.size w w2 := hB1.trans (hb2.mono hB1.size)
    have hK' := hK.below (hS1.trans (hb2.mono hS1.size)) zz0
    have hZ' := hZ.below (hS1.trans (hb2.mono hS1.size)) zz1
    have k0 := hK'.at 0 _ rfl
    have k1 := hK'.at 1 _ rfl
    have k2 := hK'.at 2 _ rfl
    have k3 := hK'.at 3 _ rfl
    have k4 := hK'.at 4 _ rfl
    have k5 := hK'.at 5 _ rfl
    have z0 := hZ'.at 0 _ rfl
    have z1 := hZ'.at 1 _ rfl
    have z2 := hZ'.at 2 _ rfl
    have z3 := hZ'.at 3 _ rfl
    have z4 := hZ'.at 4 _ rfl
    have z5 := hZ'.at 5 _ rfl
    have f0 := hZ'.free 0 _ rfl
    have f1 := hZ'.free 1 _ rfl
    have f2 := hZ'.free 2 _ rfl
    have f3 := hZ'.free 3 _ rfl
    have f4 := hZ'.free 4 _ rfl
    have f5 := hZ'.free 5 _ rfl
    have kl := hK'.lt
    have fl := hZ'.lt
    go_wp2_with fail
    refine bodyPost_ret (v := .tuple #[.agg #[.int .i64 st, .string fr.loc, .string fr.dom, .slice A to_.length c, .string tx, .bool lg], .int .i64 501]) (by simp [results, Tryd.results68, go_sem, *]) rfl (postCmd_same rfl hc.out (below_six hB2 (Nat.le_succ _)))
set_option maxHeartbeats 1000000 in
set_option maxRecDepth 100000 in
theorem commanded_mail (A : Option Addr) (c : Nat) (A0 : Option Addr) (c0 : Nat) (kn : List ByteArray) (line : ByteArray) (w : World) (st : Int) (fr : AAddress) (to_ : List AAddress) (tx : ByteArray) (lg : Bool) (hr : Kd.C kAAddress w A to_.length to_) (hc : to_.length ≤ c) (hz : line.size ≤ 300) (t : ByteArray) (o1 : behV line (⟨#[76, 72, 76, 79, 32]⟩ : ByteArray) = none) (o2 : behV line (⟨#[77, 65, 73, 76, 32, 70, 82, 79, 77, 58]⟩ : ByteArray) = some t) : Calls Tryd.prog 68 #[.agg #[.int .i64 st, .string fr.loc, .string fr.dom, .slice A to_.length c, .string tx, .bool lg], .slice A0 kn.length c0, .string line] w (PostCmd w A to_ (mailR ⟨st, fr, to_, tx, lg⟩ t)) := by
  replace hr := Lib.hid hr
  replace hc := Lib.hid hc
  have ht := beh_size o2
  have i1 : ¬ (300 : Int) < (line.size : Int) := by omega
  have HL := Lib.hid (fun w => behind_calls line (⟨#[76, 72, 76, 79, 32]⟩ : ByteArray) w (by omega) (by decide))
  rw [o1] at HL
  clear o1
  have HM := Lib.hid (fun w => behind_calls line (⟨#[77, 65, 73, 76, 32, 70, 82, 79, 77, 58]⟩ : ByteArray) w (by omega) (by decide))
  rw [o2] at HM
  clear o2
  unfold mailR
  have HA := Lib.hid (fun w => angled_calls t w (by omega))
  generalize angV t = o at *
  clear ht
  simp only
  by_cases hst : st = 1
  · rw [if_pos hst]
    have i2 : (st != 1) = false := by rw [hst]; rfl
    clear hst
    cases o with
    | none =>
      simp only
      skip
      skip
      go_enter Tryd.func68, Tryd.ntmps68
      go_wp2_with fail
      obtain ⟨W, hW⟩ : ∃ W : World, W = (w.alloc (.cells #[.int .i64 st, .string fr.loc, .string fr.dom, .slice A to_.length c, .string tx, .bool lg] 52)).alloc (.cells #[.int .i64 0, .string ⟨#[]⟩, .string ⟨#[]⟩, .slice none 0 0, .string ⟨#[]⟩, .bool false] 52) := ⟨_, rfl⟩
      have hK : Blk W w.heap.size [.int .i64 st, .string fr.loc, .string fr.dom, .slice A to_.length c, .string tx, .bool lg] := by rw [hW]; exact (Blk.made w _ _).alloc _
      have hZ : Blk W (w.heap.size + 1) [.int .i64 0, .string ⟨#[]⟩, .string ⟨#[]⟩, .slice none 0 0, .string ⟨#[]⟩, .bool false] := by rw [hW]; exact Blk.made_at _ _ _ (by simp)
      have hb0 : Below w.heap.size w W := by rw [hW]; exact (by repeat (first | exact Below.refl _ _ | apply below_alloc | apply pw_below_drewN | apply below_drew1 | (refine Below.setCell ?_ (by first | (simp; done) | (simp; omega) | omega) _) ))
      have hz0 : W.heap.size = w.heap.size + 2 := by rw [hW]; simp
      rw [← hW]
      replace hW := Lib.hid hW
      have HZ0 := Lib.hid hz0
      have zz1 : w.heap.size + 1 < W.heap.size := by omega
      have zz0 : w.heap.size < W.heap.size := by omega
      clear hz0
      skip
      refine (HL.out _).mono ?_
      rintro e w1 ⟨rfl, hb1⟩
      have hB1 : Below w.heap.size w w1 := hb0.trans (hb1.mono (by have := hb0.size; omega))
      have hS1 : Below W.heap.size W w1 := hb1
      go_wp2_with fail
      refine (HM.out _).mono ?_
      rintro e w2 ⟨rfl, hb2⟩
      have hB2 : Below w.heap.size w w2 := hB1.trans (hb2.mono hB1.size)
      have hS2 : Below W.heap.size W w2 := hS1.trans (hb2.mono hS1.size)
      go_wp2_with fail
      refine (HA.out _).mono ?_
      rintro e w4 ⟨x, rfl, hx, hb4⟩
      have hB4 : Below w.heap.size w w4 := (hB2).trans (hb4.mono (hB2).size)
      have hK' := hK.below (hS2.trans (hb4.mono hS2.size)) zz0
      have hZ' := hZ.below (hS2.trans (hb4.mono hS2.size)) zz1
      have k0 := hK'.at 0 _ rfl
      have k1 := hK'.at 1 _ rfl
      have k2 := hK'.at 2 _ rfl
      have k3 := hK'.at 3 _ rfl
      have k4 := hK'.at 4 _ rfl
      have k5 := hK'.at 5 _ rfl
      have z0 := hZ'.at 0 _ rfl
      have z1 := hZ'.at 1 _ rfl
      have z2 := hZ'.at 2 _ rfl
      have z3 := hZ'.at 3 _ rfl
      have z4 := hZ'.at 4 _ rfl
      have z5 := hZ'.at 5 _ rfl
      have f0 := hZ'.free 0 _ rfl
      have f1 := hZ'.free 1 _ rfl
      have f2 := hZ'.free 2 _ rfl
      have f3 := hZ'.free 3 _ rfl
      have f4 := hZ'.free 4 _ rfl
      have f5 := hZ'.free 5 _ rfl
      have kl := hK'.lt
      have fl := hZ'.lt
      clear hx
      skip
      go_wp2_with fail
      refine bodyPost_ret (v := .tuple #[.agg #[.int .i64 st, .string fr.loc, .string fr.dom, .slice A to_.length c, .string tx, .bool lg], .int .i64 501]) (by simp [results, Tryd.results68, go_sem, *]) rfl (postCmd_same rfl hc.out (below_sixA hB4 (Nat.le_succ _)))
    | some a =>
      simp only
      skip
      skip
      go_enter Tryd.func68, Tryd.ntmps68
      go_wp2_with fail
      obtain ⟨W, hW⟩ : ∃ W : World, W = (w.alloc (.cells #[.int .i64 st, .string fr.loc, .string fr.dom, .slice A to_.length c, .string tx, .bool lg] 52)).alloc (.cells #[.int .i64 0, .string ⟨#[]⟩, .string ⟨#[]⟩, .slice none 0 0, .string ⟨#[]⟩, .bool false] 52) := ⟨_, rfl⟩
      have hK : Blk W w.heap.size [.int .i64 st, .string fr.loc, .string fr.dom, .slice A to_.length c, .string tx, .bool lg] := by rw [hW]; exact (Blk.made w _ _).alloc _
      have hZ : Blk W (w.heap.size + 1) [.int .i64 0, .string ⟨#[]⟩, .string ⟨#[]⟩, .slice none 0 0, .string ⟨#[]⟩, .bool false] := by rw [hW]; exact Blk.made_at _ _ _ (by simp)
      have hb0 : Below w.heap.size w W := by rw [hW]; exact (by repeat (first | exact Below.refl _ _ | apply below_alloc | apply pw_below_drewN | apply below_drew1 | (refine Below.setCell ?_ (by first | (simp; done) | (simp; omega) | omega) _) ))
      have hz0 : W.heap.size = w.heap.size + 2 := by rw [hW]; simp
      rw [← hW]
      replace hW := Lib.hid hW
      have HZ0 := Lib.hid hz0
      have zz1 : w.heap.size + 1 < W.heap.size := by omega
      have zz0 : w.heap.size < W.heap.size := by omega
      clear hz0
      skip
      refine (HL.out _).mono ?_
      rintro e w1 ⟨rfl, hb1⟩
      have hB1 : Below w.heap.size w w1 := hb0.trans (hb1.mono (by have := hb0.size; omega))
      have hS1 : Below W.heap.size W w1 := hb1
      go_wp2_with fail
      refine (HM.out _).mono ?_
      rintro e w2 ⟨rfl, hb2⟩
      have hB2 : Below w.heap.size w w2 := hB1.trans (hb2.mono hB1.size)
      have hS2 : Below W.heap.size W w2 := hS1.trans (hb2.mono hS1.size)
      go_wp2_with fail
      refine (HA.out _).mono ?_
      rintro e w4 ⟨x, rfl, hx, hb4⟩
      have hB4 : Below w.heap.size w w4 := (hB2).trans (hb4.mono (hB2).size)
      obtain rfl := hx a rfl
      have hK' := hK.below (hS2.trans (hb4.mono hS2.size)) zz0
      have hZ' := hZ.below (hS2.trans (hb4.mono hS2.size)) zz1
      have k0 := hK'.at 0 _ rfl
      have k1 := hK'.at 1 _ rfl
      have k2 := hK'.at 2 _ rfl
      have k3 := hK'.at 3 _ rfl
      have k4 := hK'.at 4 _ rfl
      have k5 := hK'.at 5 _ rfl
      have z0 := hZ'.at 0 _ rfl
      have z1 := hZ'.at 1 _ rfl
      have z2 := hZ'.at 2 _ rfl
      have z3 := hZ'.at 3 _ rfl
      have z4 := hZ'.at 4 _ rfl
      have z5 := hZ'.at 5 _ rfl
      have f0 := hZ'.free 0 _ rfl
      have f1 := hZ'.free 1 _ rfl
      have f2 := hZ'.free 2 _ rfl
      have f3 := hZ'.free 3 _ rfl
      have f4 := hZ'.free 4 _ rfl
      have f5 := hZ'.free 5 _ rfl
      have kl := hK'.lt
      have fl := hZ'.lt
      clear hx
      skip
      go_wp2_with fail
      refine bodyPost_ret (v := .tuple #[.agg #[.int .i64 2, .string x.loc, .string x.dom, .slice none 0 0, .string ⟨#[]⟩, .bool false], .int .i64 250]) (by simp [results, Tryd.results68, go_sem, *]) rfl (postCmd_new (fr := ⟨x.loc, x.dom⟩) rfl (below_sixA hB4 (Nat.le_succ _)))
  · rw [if_neg hst]
    have i2 : (st != 1) = true := bne_iff_ne.mpr hst
    clear hst
    skip
    skip
    go_enter Tryd.func68, Tryd.ntmps68
    go_wp2_with fail
    obtain ⟨W, hW⟩ : ∃ W : World, W = (w.alloc (.cells #[.int .i64 st, .string fr.loc, .string fr.dom, .slice A to_.length c, .string tx, .bool lg] 52)).alloc (.cells #[.int .i64 0, .string ⟨#[]⟩, .string ⟨#[]⟩, .slice none 0 0, .string ⟨#[]⟩, .bool false] 52) := ⟨_, rfl⟩
    have hK : Blk W w.heap.size [.int .i64 st, .string fr.loc, .string fr.dom, .slice A to_.length c, .string tx, .bool lg] := by rw [hW]; exact (Blk.made w _ _).alloc _
    have hZ : Blk W (w.heap.size + 1) [.int .i64 0, .string ⟨#[]⟩, .string ⟨#[]⟩, .slice none 0 0, .string ⟨#[]⟩, .bool false] := by rw [hW]; exact Blk.made_at _ _ _ (by simp)
    have hb0 : Below w.heap.size w W := by rw [hW]; exact (by repeat (first | exact Below.refl _ _ | apply below_alloc | apply pw_below_drewN | apply below_drew1 | (refine Below.setCell ?_ (by first | (simp; done) | (simp; omega) | omega) _) ))
    have hz0 : W.heap.size = w.heap.size + 2 := by rw [hW]; simp
    rw [← hW]
    replace hW := Lib.hid hW
    have HZ0 := Lib.hid hz0
    have zz1 : w.heap.size + 1 < W.heap.size := by omega
    have zz0 : w.heap.size < W.heap.size := by omega
    clear hz0
    skip
    refine (HL.out _).mono ?_
    rintro e w1 ⟨rfl, hb1⟩
    have hB1 : Below w.heap.size w w1 := hb0.trans (hb1.mono (by have := hb0.size; omega))
    have hS1 : Below W.heap.size W w1 := hb1
    go_wp2_with fail
    refine (HM.out _).mono ?_
    rintro e w2 ⟨rfl, hb2⟩
    have hB2 : Below w.heap.size w w2 := hB1.trans (hb2.mono hB1.size)
    have hS2 : Below W.heap.size W w2 := hS1.trans (hb2.mono hS1.size)
    go_wp2_with fail
    refine (HA.out _).mono ?_
    rintro e w4 ⟨x, rfl, hx, hb4⟩
    have hB4 : Below w.heap.size w w4 := (hB2).trans (hb4.mono (hB2).size)
    have hK' := hK.below (hS2.trans (hb4.mono hS2.size)) zz0
    have hZ' := hZ.below (hS2.trans (hb4.mono hS2.size)) zz1
    have k0 := hK'.at 0 _ rfl
    have k1 := hK'.at 1 _ rfl
    have k2 := hK'.at 2 _ rfl
    have k3 := hK'.at 3 _ rfl
    have k4 := hK'.at 4 _ rfl
    have k5 := hK'.at 5 _ rfl
    have z0 := hZ'.at 0 _ rfl
    have z1 := hZ'.at 1 _ rfl
    have z2 := hZ'.at 2 _ rfl
    have z3 := hZ'.at 3 _ rfl
    have z4 := hZ'.at 4 _ rfl
    have z5 := hZ'.at 5 _ rfl
    have f0 := hZ'.free 0 _ rfl
    have f1 := hZ'.free 1 _ rfl
    have f2 := hZ'.free 2 _ rfl
    have f3 := hZ'.free 3 _ rfl
    have f4 := hZ'.free 4 _ rfl
    have f5 := hZ'.free 5 _ rfl
    have kl := hK'.lt
    have fl := hZ'.lt
    clear hx
    skip
    go_wp2_with fail
    refine bodyPost_ret (v := .tuple #[.agg #[.int .i64 st, .string fr.loc, .string fr.dom, .slice A to_.length c, .string tx, .bool lg], .int .i64 503]) (by simp [results, Tryd.results68, go_sem, *]) rfl (postCmd_same rfl hc.out (below_sixA hB4 (Nat.le_succ _)))
set_option maxHeartbeats 1000000 in
set_option maxRecDepth 100000 in
theorem commanded_rcpt (A : Option Addr) (c : Nat) (A0 : Option Addr) (c0 : Nat) (kn : List ByteArray) (line : ByteArray) (w : World) (st : Int) (fr : AAddress) (to_ : List AAddress) (tx : ByteArray) (lg : Bool) (hr : Kd.C kAAddress w A to_.length to_) (hc : to_.length ≤ c) (hz : line.size ≤ 300) (h5 : to_.length ≤ 5) (hkn : Kd.C Kd.string w A0 kn.length kn) (t : ByteArray) (o1 : behV line (⟨#[76, 72, 76, 79, 32]⟩ : ByteArray) = none) (o2 : behV line (⟨#[77, 65, 73, 76, 32, 70, 82, 79, 77, 58]⟩ : ByteArray) = none) (o3 : behV line (⟨#[82, 67, 80, 84, 32, 84, 79, 58]⟩ : ByteArray) = some t) : Calls Tryd.prog 68 #[.agg #[.int .i64 st, .string fr.loc, .string fr.dom, .slice A to_.length c, .string tx, .bool lg], .slice A0 kn.length c0, .string line] w (PostCmd w A to_ (rcptR ⟨st, fr, to_, tx, lg⟩ kn t)) := by
  replace hr := Lib.hid hr
  replace hc := Lib.hid hc
  replace hkn := Lib.hid hkn
  have ht := beh_size o3
  have i1 : ¬ (300 : Int) < (line.size : Int) := by omega
  have HL := Lib.hid (fun w => behind_calls line (⟨#[76, 72, 76, 79, 32]⟩ : ByteArray) w (by omega) (by decide))
  rw [o1] at HL
  clear o1
  have HM := Lib.hid (fun w => behind_calls line (⟨#[77, 65, 73, 76, 32, 70, 82, 79, 77, 58]⟩ : ByteArray) w (by omega) (by decide))
  rw [o2] at HM
  clear o2
  have HR := Lib.hid (fun w => behind_calls line (⟨#[82, 67, 80, 84, 32, 84, 79, 58]⟩ : ByteArray) w (by omega) (by decide))
  rw [o3] at HR
  clear o3
  unfold rcptR
  have HA := Lib.hid (fun w => angled_calls t w (by omega))
  generalize angV t = o at *
  clear ht
  simp only
  by_cases h1 : st = 2 ∨ st = 3
  · rw [if_pos h1]
    have hq1 : (st != 2) = false ∨ (st != 2) = true ∧ (st != 3) = false := by rcases h1 with rfl | rfl <;> simp
    clear h1
    cases o with
    | none =>
      simp only
      rcases hq1 with hq1 | ⟨hq1, hq2⟩
      all_goals
        skip
        skip
        skip
        go_enter Tryd.func68, Tryd.ntmps68
        go_wp2_with fail
        obtain ⟨W, hW⟩ : ∃ W : World, W = (w.alloc (.cells #[.int .i64 st, .string fr.loc, .string fr.dom, .slice A to_.length c, .string tx, .bool lg] 52)).alloc (.cells #[.int .i64 0, .string ⟨#[]⟩, .string ⟨#[]⟩, .slice none 0 0, .string ⟨#[]⟩, .bool false] 52) := ⟨_, rfl⟩
        have hK : Blk W w.heap.size [.int .i64 st, .string fr.loc, .string fr.dom, .slice A to_.length c, .string tx, .bool lg] := by rw [hW]; exact (Blk.made w _ _).alloc _
        have hZ : Blk W (w.heap.size + 1) [.int .i64 0, .string ⟨#[]⟩, .string ⟨#[]⟩, .slice none 0 0, .string ⟨#[]⟩, .bool false] := by rw [hW]; exact Blk.made_at _ _ _ (by simp)
        have hb0 : Below w.heap.size w W := by rw [hW]; exact (by repeat (first | exact Below.refl _ _ | apply below_alloc | apply pw_below_drewN | apply below_drew1 | (refine Below.setCell ?_ (by first | (simp; done) | (simp; omega) | omega) _) ))
        have hz0 : W.heap.size = w.heap.size + 2 := by rw [hW]; simp
        rw [← hW]
        replace hW := Lib.hid hW
        have HZ0 := Lib.hid hz0
        have zz1 : w.heap.size + 1 < W.heap.size := by omega
        have zz0 : w.heap.size < W.heap.size := by omega
        clear hz0
        skip
        skip
        refine (HL.out _).mono ?_
        rintro e w1 ⟨rfl, hb1⟩
        have hB1 : Below w.heap.size w w1 := hb0.trans (hb1.mono (by have := hb0.size; omega))
        have hS1 : Below W.heap.size W w1 := hb1
        go_wp2_with fail
        refine (HM.out _).mono ?_
        rintro e w2 ⟨rfl, hb2⟩
        have hB2 : Below w.heap.size w w2 := hB1.trans (hb2.mono hB1.size)
        have hS2 : Below W.heap.size W w2 := hS1.trans (hb2.mono hS1.size)
        go_wp2_with fail
        refine (HR.out _).mono ?_
        rintro e w3 ⟨rfl, hb3⟩
        have hB3 : Below w.heap.size w w3 := hB2.trans (hb3.mono hB2.size)
        have hS3 : Below W.heap.size W w3 := hS2.trans (hb3.mono hS2.size)
        go_wp2_with fail
        refine (HA.out _).mono ?_
        rintro e w4 ⟨x, rfl, hx, hb4⟩
        have hB4 : Below w.heap.size w w4 := (hB3).trans (hb4.mono (hB3).size)
        have hK' := hK.below (hS3.trans (hb4.mono hS3.size)) zz0
        have hZ' := hZ.below (hS3.trans (hb4.mono hS3.size)) zz1
        have k0 := hK'.at 0 _ rfl
        have k1 := hK'.at 1 _ rfl
        have k2 := hK'.at 2 _ rfl
        have k3 := hK'.at 3 _ rfl
        have k4 := hK'.at 4 _ rfl
        have k5 := hK'.at 5 _ rfl
        have z0 := hZ'.at 0 _ rfl
        have z1 := hZ'.at 1 _ rfl
        have z2 := hZ'.at 2 _ rfl
        have z3 := hZ'.at 3 _ rfl
        have z4 := hZ'.at 4 _ rfl
        have z5 := hZ'.at 5 _ rfl
        have f0 := hZ'.free 0 _ rfl
        have f1 := hZ'.free 1 _ rfl
        have f2 := hZ'.free 2 _ rfl
        have f3 := hZ'.free 3 _ rfl
        have f4 := hZ'.free 4 _ rfl
        have f5 := hZ'.free 5 _ rfl
        have kl := hK'.lt
        have fl := hZ'.lt
        clear hx
        skip
        go_wp2_with fail
        refine bodyPost_ret (v := .tuple #[.agg #[.int .i64 st, .string fr.loc, .string fr.dom, .slice A to_.length c, .string tx, .bool lg], .int .i64 501]) (by simp [results, Tryd.results68, go_sem, *]) rfl (postCmd_same rfl hc.out (below_sixA hB4 (Nat.le_succ _)))
    | some a =>
      simp only
      have HN := Lib.hid (fun w hr => knownLocal_calls A0 c0 kn a.loc w hr)
      have HI := Lib.hid (fun w hr => addressIn_calls A c to_ a w hr)
      generalize hasT kn a.loc = q1 at *
      generalize hasA to_ a = q2 at *
      rcases hq1 with hq1 | ⟨hq1, hq2⟩
      all_goals
        cases q1 with
        | false =>
          rw [if_neg (by simp)]
          skip
          skip
          skip
          go_enter Tryd.func68, Tryd.ntmps68
          go_wp2_with fail
          obtain ⟨W, hW⟩ : ∃ W : World, W = (w.alloc (.cells #[.int .i64 st, .string fr.loc, .string fr.dom, .slice A to_.length c, .string tx, .bool lg] 52)).alloc (.cells #[.int .i64 0, .string ⟨#[]⟩, .string ⟨#[]⟩, .slice none 0 0, .string ⟨#[]⟩, .bool false] 52) := ⟨_, rfl⟩
          have hK : Blk W w.heap.size [.int .i64 st, .string fr.loc, .string fr.dom, .slice A to_.length c, .string tx, .bool lg] := by rw [hW]; exact (Blk.made w _ _).alloc _
          have hZ : Blk W (w.heap.size + 1) [.int .i64 0, .string ⟨#[]⟩, .string ⟨#[]⟩, .slice none 0 0, .string ⟨#[]⟩, .bool false] := by rw [hW]; exact Blk.made_at _ _ _ (by simp)
          have hb0 : Below w.heap.size w W := by rw [hW]; exact (by repeat (first | exact Below.refl _ _ | apply below_alloc | apply pw_below_drewN | apply below_drew1 | (refine Below.setCell ?_ (by first | (simp; done) | (simp; omega) | omega) _) ))
          have hz0 : W.heap.size = w.heap.size + 2 := by rw [hW]; simp
          rw [← hW]
          replace hW := Lib.hid hW
          have HZ0 := Lib.hid hz0
          have zz1 : w.heap.size + 1 < W.heap.size := by omega
          have zz0 : w.heap.size < W.heap.size := by omega
          clear hz0
          skip
          skip
          refine (HL.out _).mono ?_
          rintro e w1 ⟨rfl, hb1⟩
          have hB1 : Below w.heap.size w w1 := hb0.trans (hb1.mono (by have := hb0.size; omega))
          have hS1 : Below W.heap.size W w1 := hb1
          go_wp2_with fail
          refine (HM.out _).mono ?_
          rintro e w2 ⟨rfl, hb2⟩
          have hB2 : Below w.heap.size w w2 := hB1.trans (hb2.mono hB1.size)
          have hS2 : Below W.heap.size W w2 := hS1.trans (hb2.mono hS1.size)
          go_wp2_with fail
          refine (HR.out _).mono ?_
          rintro e w3 ⟨rfl, hb3⟩
          have hB3 : Below w.heap.size w w3 := hB2.trans (hb3.mono hB2.size)
          have hS3 : Below W.heap.size W w3 := hS2.trans (hb3.mono hS2.size)
          go_wp2_with fail
          refine (HA.out _).mono ?_
          rintro e w4 ⟨x, rfl, hx, hb4⟩
          have hB4 : Below w.heap.size w w4 := (hB3).trans (hb4.mono (hB3).size)
          have hK' := hK.below (hS3.trans (hb4.mono hS3.size)) zz0
          have hZ' := hZ.below (hS3.trans (hb4.mono hS3.size)) zz1
          have k0 := hK'.at 0 _ rfl
          have k1 := hK'.at 1 _ rfl
          have k2 := hK'.at 2 _ rfl
          have k3 := hK'.at 3 _ rfl
          have k4 := hK'.at 4 _ rfl
          have k5 := hK'.at 5 _ rfl
          have z0 := hZ'.at 0 _ rfl
          have z1 := hZ'.at 1 _ rfl
          have z2 := hZ'.at 2 _ rfl
          have z3 := hZ'.at 3 _ rfl
          have z4 := hZ'.at 4 _ rfl
          have z5 := hZ'.at 5 _ rfl
          have f0 := hZ'.free 0 _ rfl
          have f1 := hZ'.free 1 _ rfl
          have f2 := hZ'.free 2 _ rfl
          have f3 := hZ'.free 3 _ rfl
          have f4 := hZ'.free 4 _ rfl
          have f5 := hZ'.free 5 _ rfl
          have kl := hK'.lt
          have fl := hZ'.lt
          obtain rfl := hx a rfl
          clear hx
          have hX : Blk (w4.alloc (.cells #[.string x.loc, .string x.dom] 49)) w4.heap.size [.string x.loc, .string x.dom] := Blk.made _ _ _
          have hBV : Below w.heap.size w (w4.alloc (.cells #[.string x.loc, .string x.dom] 49)) := hB4.alloc hB4.size _
          have hSV : Below W.heap.size W (w4.alloc (.cells #[.string x.loc, .string x.dom] 49)) := (hS3.trans (hb4.mono hS3.size)).alloc (hS3.trans (hb4.mono hS3.size)).size _
          go_wp2_with fail
          refine (HN.out _ (Kd.C_below hkn.out hBV)).mono ?_
          rintro e w5 ⟨rfl, hb5⟩
          have hX5 := hX.below hb5 hX.lt
          have hB5 : Below w.heap.size w w5 := hBV.trans (hb5.mono hBV.size)
          have hS5 : Below W.heap.size W w5 := hSV.trans (hb5.mono hSV.size)
          have bx : w4.heap.size < w5.heap.size := hX5.lt
          clear hX hBV hSV
          clear hK' hZ' k0 k1 k2 k3 k4 k5 z0 z1 z2 z3 z4 z5 f0 f1 f2 f3 f4 f5 kl fl
          have hK' := hK.below hS5 zz0
          have hZ' := hZ.below hS5 zz1
          have k0 := hK'.at 0 _ rfl
          have k1 := hK'.at 1 _ rfl
          have k2 := hK'.at 2 _ rfl
          have k3 := hK'.at 3 _ rfl
          have k4 := hK'.at 4 _ rfl
          have k5 := hK'.at 5 _ rfl
          have z0 := hZ'.at 0 _ rfl
          have z1 := hZ'.at 1 _ rfl
          have z2 := hZ'.at 2 _ rfl
          have z3 := hZ'.at 3 _ rfl
          have z4 := hZ'.at 4 _ rfl
          have z5 := hZ'.at 5 _ rfl
          have f0 := hZ'.free 0 _ rfl
          have f1 := hZ'.free 1 _ rfl
          have f2 := hZ'.free 2 _ rfl
          have f3 := hZ'.free 3 _ rfl
          have f4 := hZ'.free 4 _ rfl
          have f5 := hZ'.free 5 _ rfl
          have kl := hK'.lt
          have fl := hZ'.lt
          go_wp2_with fail
          refine bodyPost_ret (v := .tuple #[.agg #[.int .i64 st, .string fr.loc, .string fr.dom, .slice A to_.length c, .string tx, .bool lg], .int .i64 550]) (by simp [results, Tryd.results68, go_sem, *]) rfl (postCmd_same rfl hc.out (below_six hB5 (Nat.le_succ _)))
        | true =>
          rw [if_pos rfl]
          cases q2 with
          | true =>
            rw [if_pos rfl]
            skip
            skip
            skip
            go_enter Tryd.func68, Tryd.ntmps68
            go_wp2_with fail
            obtain ⟨W, hW⟩ : ∃ W : World, W = (w.alloc (.cells #[.int .i64 st, .string fr.loc, .string fr.dom, .slice A to_.length c, .string tx, .bool lg] 52)).alloc (.cells #[.int .i64 0, .string ⟨#[]⟩, .string ⟨#[]⟩, .slice none 0 0, .string ⟨#[]⟩, .bool false] 52) := ⟨_, rfl⟩
            have hK : Blk W w.heap.size [.int .i64 st, .string fr.loc, .string fr.dom, .slice A to_.length c, .string tx, .bool lg] := by rw [hW]; exact (Blk.made w _ _).alloc _
            have hZ : Blk W (w.heap.size + 1) [.int .i64 0, .string ⟨#[]⟩, .string ⟨#[]⟩, .slice none 0 0, .string ⟨#[]⟩, .bool false] := by rw [hW]; exact Blk.made_at _ _ _ (by simp)
            have hb0 : Below w.heap.size w W := by rw [hW]; exact (by repeat (first | exact Below.refl _ _ | apply below_alloc | apply pw_below_drewN | apply below_drew1 | (refine Below.setCell ?_ (by first | (simp; done) | (simp; omega) | omega) _) ))
            have hz0 : W.heap.size = w.heap.size + 2 := by rw [hW]; simp
            rw [← hW]
            replace hW := Lib.hid hW
            have HZ0 := Lib.hid hz0
            have zz1 : w.heap.size + 1 < W.heap.size := by omega
            have zz0 : w.heap.size < W.heap.size := by omega
            clear hz0
            skip
            skip
            refine (HL.out _).mono ?_
            rintro e w1 ⟨rfl, hb1⟩
            have hB1 : Below w.heap.size w w1 := hb0.trans (hb1.mono (by have := hb0.size; omega))
            have hS1 : Below W.heap.size W w1 := hb1
            go_wp2_with fail
            refine (HM.out _).mono ?_
            rintro e w2 ⟨rfl, hb2⟩
            have hB2 : Below w.heap.size w w2 := hB1.trans (hb2.mono hB1.size)
            have hS2 : Below W.heap.size W w2 := hS1.trans (hb2.mono hS1.size)
            go_wp2_with fail
            refine (HR.out _).mono ?_
            rintro e w3 ⟨rfl, hb3⟩
            have hB3 : Below w.heap.size w w3 := hB2.trans (hb3.mono hB2.size)
            have hS3 : Below W.heap.size W w3 := hS2.trans (hb3.mono hS2.size)
            go_wp2_with fail
            refine (HA.out _).mono ?_
            rintro e w4 ⟨x, rfl, hx, hb4⟩
            have hB4 : Below w.heap.size w w4 := (hB3).trans (hb4.mono (hB3).size)
            have hK' := hK.below (hS3.trans (hb4.mono hS3.size)) zz0
            have hZ' := hZ.below (hS3.trans (hb4.mono hS3.size)) zz1
            have k0 := hK'.at 0 _ rfl
            have k1 := hK'.at 1 _ rfl
            have k2 := hK'.at 2 _ rfl
            have k3 := hK'.at 3 _ rfl
            have k4 := hK'.at 4 _ rfl
            have k5 := hK'.at 5 _ rfl
            have z0 := hZ'.at 0 _ rfl
            have z1 := hZ'.at 1 _ rfl
            have z2 := hZ'.at 2 _ rfl
            have z3 := hZ'.at 3 _ rfl
            have z4 := hZ'.at 4 _ rfl
            have z5 := hZ'.at 5 _ rfl
            have f0 := hZ'.free 0 _ rfl
            have f1 := hZ'.free 1 _ rfl
            have f2 := hZ'.free 2 _ rfl
            have f3 := hZ'.free 3 _ rfl
            have f4 := hZ'.free 4 _ rfl
            have f5 := hZ'.free 5 _ rfl
            have kl := hK'.lt
            have fl := hZ'.lt
            skip
            obtain rfl := hx a rfl
            clear hx
            have hX : Blk (w4.alloc (.cells #[.string x.loc, .string x.dom] 49)) w4.heap.size [.string x.loc, .string x.dom] := Blk.made _ _ _
            have hBV : Below w.heap.size w (w4.alloc (.cells #[.string x.loc, .string x.dom] 49)) := hB4.alloc hB4.size _
            have hSV : Below W.heap.size W (w4.alloc (.cells #[.string x.loc, .string x.dom] 49)) := (hS3.trans (hb4.mono hS3.size)).alloc (hS3.trans (hb4.mono hS3.size)).size _
            go_wp2_with fail
            refine (HN.out _ (Kd.C_below hkn.out hBV)).mono ?_
            rintro e w5 ⟨rfl, hb5⟩
            have hX5 := hX.below hb5 hX.lt
            have hB5 : Below w.heap.size w w5 := hBV.trans (hb5.mono hBV.size)
            have hS5 : Below W.heap.size W w5 := hSV.trans (hb5.mono hSV.size)
            have bx : w4.heap.size < w5.heap.size := hX5.lt
            clear hX hBV hSV
            have hK' := hK.below hS5 zz0
            have hZ' := hZ.below hS5 zz1
            have k0 := hK'.at 0 _ rfl
            have k1 := hK'.at 1 _ rfl
            have k2 := hK'.at 2 _ rfl
            have k3 := hK'.at 3 _ rfl
            have k4 := hK'.at 4 _ rfl
            have k5 := hK'.at 5 _ rfl
            have z0 := hZ'.at 0 _ rfl
            have z1 := hZ'.at 1 _ rfl
            have z2 := hZ'.at 2 _ rfl
            have z3 := hZ'.at 3 _ rfl
            have z4 := hZ'.at 4 _ rfl
            have z5 := hZ'.at 5 _ rfl
            have f0 := hZ'.free 0 _ rfl
            have f1 := hZ'.free 1 _ rfl
            have f2 := hZ'.free 2 _ rfl
            have f3 := hZ'.free 3 _ rfl
            have f4 := hZ'.free 4 _ rfl
            have f5 := hZ'.free 5 _ rfl
            have kl := hK'.lt
            have fl := hZ'.lt
            have x0 := hX5.at 0 _ rfl
            have x1 := hX5.at 1 _ rfl
            go_wp2_with fail
            refine (HI.out _ (Kd.C_below hr.out hB5)).mono ?_
            rintro e w6 ⟨rfl, hb6⟩
            have hX6 := hX5.below hb6 hX5.lt
            have hB6 : Below w.heap.size w w6 := hB5.trans (hb6.mono hB5.size)
            have hS6 : Below W.heap.size W w6 := hS5.trans (hb6.mono hS5.size)
            clear hX5 x0 x1 hK' hZ' k0 k1 k2 k3 k4 k5 z0 z1 z2 z3 z4 z5 f0 f1 f2 f3 f4 f5 kl fl
            have hK' := hK.below hS6 zz0
            have hZ' := hZ.below hS6 zz1
            have k0 := hK'.at 0 _ rfl
            have k1 := hK'.at 1 _ rfl
            have k2 := hK'.at 2 _ rfl
            have k3 := hK'.at 3 _ rfl
            have k4 := hK'.at 4 _ rfl
            have k5 := hK'.at 5 _ rfl
            have z0 := hZ'.at 0 _ rfl
            have z1 := hZ'.at 1 _ rfl
            have z2 := hZ'.at 2 _ rfl
            have z3 := hZ'.at 3 _ rfl
            have z4 := hZ'.at 4 _ rfl
            have z5 := hZ'.at 5 _ rfl
            have f0 := hZ'.free 0 _ rfl
            have f1 := hZ'.free 1 _ rfl
            have f2 := hZ'.free 2 _ rfl
            have f3 := hZ'.free 3 _ rfl
            have f4 := hZ'.free 4 _ rfl
            have f5 := hZ'.free 5 _ rfl
            have kl := hK'.lt
            have fl := hZ'.lt
            clear hX6
            skip
            go_wp2_with fail
            refine bodyPost_ret (v := .tuple #[.agg #[.int .i64 st, .string fr.loc, .string fr.dom, .slice A to_.length c, .string tx, .bool lg], .int .i64 250]) (by simp [results, Tryd.results68, go_sem, *]) rfl (postCmd_same rfl hc.out (below_six hB6 (Nat.le_succ _)))
          | false =>
            rw [if_neg (by simp)]
            by_cases h6 : 5 ≤ to_.length
            · rw [if_pos h6]
              have j6 : (5 : Int) ≤ (to_.length : Int) := by omega
              clear h6
              skip
              skip
              skip
              go_enter Tryd.func68, Tryd.ntmps68
              go_wp2_with fail
              obtain ⟨W, hW⟩ : ∃ W : World, W = (w.alloc (.cells #[.int .i64 st, .string fr.loc, .string fr.dom, .slice A to_.length c, .string tx, .bool lg] 52)).alloc (.cells #[.int .i64 0, .string ⟨#[]⟩, .string ⟨#[]⟩, .slice none 0 0, .string ⟨#[]⟩, .bool false] 52) := ⟨_, rfl⟩
              have hK : Blk W w.heap.size [.int .i64 st, .string fr.loc, .string fr.dom, .slice A to_.length c, .string tx, .bool lg] := by rw [hW]; exact (Blk.made w _ _).alloc _
              have hZ : Blk W (w.heap.size + 1) [.int .i64 0, .string ⟨#[]⟩, .string ⟨#[]⟩, .slice none 0 0, .string ⟨#[]⟩, .bool false] := by rw [hW]; exact Blk.made_at _ _ _ (by simp)
              have hb0 : Below w.heap.size w W := by rw [hW]; exact (by repeat (first | exact Below.refl _ _ | apply below_alloc | apply pw_below_drewN | apply below_drew1 | (refine Below.setCell ?_ (by first | (simp; done) | (simp; omega) | omega) _) ))
              have hz0 : W.heap.size = w.heap.size + 2 := by rw [hW]; simp
              rw [← hW]
              replace hW := Lib.hid hW
              have HZ0 := Lib.hid hz0
              have zz1 : w.heap.size + 1 < W.heap.size := by omega
              have zz0 : w.heap.size < W.heap.size := by omega
              clear hz0
              skip
              skip
              refine (HL.out _).mono ?_
              rintro e w1 ⟨rfl, hb1⟩
              have hB1 : Below w.heap.size w w1 := hb0.trans (hb1.mono (by have := hb0.size; omega))
              have hS1 : Below W.heap.size W w1 := hb1
              go_wp2_with fail
              refine (HM.out _).mono ?_
              rintro e w2 ⟨rfl, hb2⟩
              have hB2 : Below w.heap.size w w2 := hB1.trans (hb2.mono hB1.size)
              have hS2 : Below W.heap.size W w2 := hS1.trans (hb2.mono hS1.size)
              go_wp2_with fail
              refine (HR.out _).mono ?_
              rintro e w3 ⟨rfl, hb3⟩
              have hB3 : Below w.heap.size w w3 := hB2.trans (hb3.mono hB2.size)
              have hS3 : Below W.heap.size W w3 := hS2.trans (hb3.mono hS2.size)
              go_wp2_with fail
              refine (HA.out _).mono ?_
              rintro e w4 ⟨x, rfl, hx, hb4⟩
              have hB4 : Below w.heap.size w w4 := (hB3).trans (hb4.mono (hB3).size)
              have hK' := hK.below (hS3.trans (hb4.mono hS3.size)) zz0
              have hZ' := hZ.below (hS3.trans (hb4.mono hS3.size)) zz1
              have k0 := hK'.at 0 _ rfl
              have k1 := hK'.at 1 _ rfl
              have k2 := hK'.at 2 _ rfl
              have k3 := hK'.at 3 _ rfl
              have k4 := hK'.at 4 _ rfl
              have k5 := hK'.at 5 _ rfl
              have z0 := hZ'.at 0 _ rfl
              have z1 := hZ'.at 1 _ rfl
              have z2 := hZ'.at 2 _ rfl
              have z3 := hZ'.at 3 _ rfl
              have z4 := hZ'.at 4 _ rfl
              have z5 := hZ'.at 5 _ rfl
              have f0 := hZ'.free 0 _ rfl
              have f1 := hZ'.free 1 _ rfl
              have f2 := hZ'.free 2 _ rfl
              have f3 := hZ'.free 3 _ rfl
              have f4 := hZ'.free 4 _ rfl
              have f5 := hZ'.free 5 _ rfl
              have kl := hK'.lt
              have fl := hZ'.lt
              skip
              obtain rfl := hx a rfl
              clear hx
              have hX : Blk (w4.alloc (.cells #[.string x.loc, .string x.dom] 49)) w4.heap.size [.string x.loc, .string x.dom] := Blk.made _ _ _
              have hBV : Below w.heap.size w (w4.alloc (.cells #[.string x.loc, .string x.dom] 49)) := hB4.alloc hB4.size _
              have hSV : Below W.heap.size W (w4.alloc (.cells #[.string x.loc, .string x.dom] 49)) := (hS3.trans (hb4.mono hS3.size)).alloc (hS3.trans (hb4.mono hS3.size)).size _
              go_wp2_with fail
              refine (HN.out _ (Kd.C_below hkn.out hBV)).mono ?_
              rintro e w5 ⟨rfl, hb5⟩
              have hX5 := hX.below hb5 hX.lt
              have hB5 : Below w.heap.size w w5 := hBV.trans (hb5.mono hBV.size)
              have hS5 : Below W.heap.size W w5 := hSV.trans (hb5.mono hSV.size)
              have bx : w4.heap.size < w5.heap.size := hX5.lt
              clear hX hBV hSV
              have hK' := hK.below hS5 zz0
              have hZ' := hZ.below hS5 zz1
              have k0 := hK'.at 0 _ rfl
              have k1 := hK'.at 1 _ rfl
              have k2 := hK'.at 2 _ rfl
              have k3 := hK'.at 3 _ rfl
              have k4 := hK'.at 4 _ rfl
              have k5 := hK'.at 5 _ rfl
              have z0 := hZ'.at 0 _ rfl
              have z1 := hZ'.at 1 _ rfl
              have z2 := hZ'.at 2 _ rfl
              have z3 := hZ'.at 3 _ rfl
              have z4 := hZ'.at 4 _ rfl
              have z5 := hZ'.at 5 _ rfl
              have f0 := hZ'.free 0 _ rfl
              have f1 := hZ'.free 1 _ rfl
              have f2 := hZ'.free 2 _ rfl
              have f3 := hZ'.free 3 _ rfl
              have f4 := hZ'.free 4 _ rfl
              have f5 := hZ'.free 5 _ rfl
              have kl := hK'.lt
              have fl := hZ'.lt
              have x0 := hX5.at 0 _ rfl
              have x1 := hX5.at 1 _ rfl
              go_wp2_with fail
              refine (HI.out _ (Kd.C_below hr.out hB5)).mono ?_
              rintro e w6 ⟨rfl, hb6⟩
              have hX6 := hX5.below hb6 hX5.lt
              have hB6 : Below w.heap.size w w6 := hB5.trans (hb6.mono hB5.size)
              have hS6 : Below W.heap.size W w6 := hS5.trans (hb6.mono hS5.size)
              clear hX5 x0 x1 hK' hZ' k0 k1 k2 k3 k4 k5 z0 z1 z2 z3 z4 z5 f0 f1 f2 f3 f4 f5 kl fl
              have hK' := hK.below hS6 zz0
              have hZ' := hZ.below hS6 zz1
              have k0 := hK'.at 0 _ rfl
              have k1 := hK'.at 1 _ rfl
              have k2 := hK'.at 2 _ rfl
              have k3 := hK'.at 3 _ rfl
              have k4 := hK'.at 4 _ rfl
              have k5 := hK'.at 5 _ rfl
              have z0 := hZ'.at 0 _ rfl
              have z1 := hZ'.at 1 _ rfl
              have z2 := hZ'.at 2 _ rfl
              have z3 := hZ'.at 3 _ rfl
              have z4 := hZ'.at 4 _ rfl
              have z5 := hZ'.at 5 _ rfl
              have f0 := hZ'.free 0 _ rfl
              have f1 := hZ'.free 1 _ rfl
              have f2 := hZ'.free 2 _ rfl
              have f3 := hZ'.free 3 _ rfl
              have f4 := hZ'.free 4 _ rfl
              have f5 := hZ'.free 5 _ rfl
              have kl := hK'.lt
              have fl := hZ'.lt
              clear hX6
              skip
              go_wp2_with fail
              refine bodyPost_ret (v := .tuple #[.agg #[.int .i64 st, .string fr.loc, .string fr.dom, .slice A to_.length c, .string tx, .bool lg], .int .i64 452]) (by simp [results, Tryd.results68, go_sem, *]) rfl (postCmd_same rfl hc.out (below_six hB6 (Nat.le_succ _)))
            · rw [if_neg h6]
              have j6 : ¬ (5 : Int) ≤ (to_.length : Int) := by omega
              replace h6 := Lib.hid h6
              skip
              skip
              skip
              go_enter Tryd.func68, Tryd.ntmps68
              go_wp2_with fail
              obtain ⟨W, hW⟩ : ∃ W : World, W = (w.alloc (.cells #[.int .i64 st, .string fr.loc, .string fr.dom, .slice A to_.length c, .string tx, .bool lg] 52)).alloc (.cells #[.int .i64 0, .string ⟨#[]⟩, .string ⟨#[]⟩, .slice none 0 0, .string ⟨#[]⟩, .bool false] 52) := ⟨_, rfl⟩
              have hK : Blk W w.heap.size [.int .i64 st, .string fr.loc, .string fr.dom, .slice A to_.length c, .string tx, .bool lg] := by rw [hW]; exact (Blk.made w _ _).alloc _
              have hZ : Blk W (w.heap.size + 1) [.int .i64 0, .string ⟨#[]⟩, .string ⟨#[]⟩, .slice none 0 0, .string ⟨#[]⟩, .bool false] := by rw [hW]; exact Blk.made_at _ _ _ (by simp)
              have hb0 : Below w.heap.size w W := by rw [hW]; exact (by repeat (first | exact Below.refl _ _ | apply below_alloc | apply pw_below_drewN | apply below_drew1 | (refine Below.setCell ?_ (by first | (simp; done) | (simp; omega) | omega) _) ))
              have hz0 : W.heap.size = w.heap.size + 2 := by rw [hW]; simp
              rw [← hW]
              replace hW := Lib.hid hW
              have HZ0 := Lib.hid hz0
              have zz1 : w.heap.size + 1 < W.heap.size := by omega
              have zz0 : w.heap.size < W.heap.size := by omega
              clear hz0
              skip
              skip
              refine (HL.out _).mono ?_
              rintro e w1 ⟨rfl, hb1⟩
              have hB1 : Below w.heap.size w w1 := hb0.trans (hb1.mono (by have := hb0.size; omega))
              have hS1 : Below W.heap.size W w1 := hb1
              go_wp2_with fail
              refine (HM.out _).mono ?_
              rintro e w2 ⟨rfl, hb2⟩
              have hB2 : Below w.heap.size w w2 := hB1.trans (hb2.mono hB1.size)
              have hS2 : Below W.heap.size W w2 := hS1.trans (hb2.mono hS1.size)
              go_wp2_with fail
              refine (HR.out _).mono ?_
              rintro e w3 ⟨rfl, hb3⟩
              have hB3 : Below w.heap.size w w3 := hB2.trans (hb3.mono hB2.size)
              have hS3 : Below W.heap.size W w3 := hS2.trans (hb3.mono hS2.size)
              go_wp2_with fail
              refine (HA.out _).mono ?_
              rintro e w4 ⟨x, rfl, hx, hb4⟩
              have hB4 : Below w.heap.size w w4 := (hB3).trans (hb4.mono (hB3).size)
              have hK' := hK.below (hS3.trans (hb4.mono hS3.size)) zz0
              have hZ' := hZ.below (hS3.trans (hb4.mono hS3.size)) zz1
              have k0 := hK'.at 0 _ rfl
              have k1 := hK'.at 1 _ rfl
              have k2 := hK'.at 2 _ rfl
              have k3 := hK'.at 3 _ rfl
              have k4 := hK'.at 4 _ rfl
              have k5 := hK'.at 5 _ rfl
              have z0 := hZ'.at 0 _ rfl
              have z1 := hZ'.at 1 _ rfl
              have z2 := hZ'.at 2 _ rfl
              have z3 := hZ'.at 3 _ rfl
              have z4 := hZ'.at 4 _ rfl
              have z5 := hZ'.at 5 _ rfl
              have f0 := hZ'.free 0 _ rfl
              have f1 := hZ'.free 1 _ rfl
              have f2 := hZ'.free 2 _ rfl
              have f3 := hZ'.free 3 _ rfl
              have f4 := hZ'.free 4 _ rfl
              have f5 := hZ'.free 5 _ rfl
              have kl := hK'.lt
              have fl := hZ'.lt
              skip
              obtain rfl := hx a rfl
              clear hx
              have hX : Blk (w4.alloc (.cells #[.string x.loc, .string x.dom] 49)) w4.heap.size [.string x.loc, .string x.dom] := Blk.made _ _ _
              have hBV : Below w.heap.size w (w4.alloc (.cells #[.string x.loc, .string x.dom] 49)) := hB4.alloc hB4.size _
              have hSV : Below W.heap.size W (w4.alloc (.cells #[.string x.loc, .string x.dom] 49)) := (hS3.trans (hb4.mono hS3.size)).alloc (hS3.trans (hb4.mono hS3.size)).size _
              go_wp2_with fail
              refine (HN.out _ (Kd.C_below hkn.out hBV)).mono ?_
              rintro e w5 ⟨rfl, hb5⟩
              have hX5 := hX.below hb5 hX.lt
              have hB5 : Below w.heap.size w w5 := hBV.trans (hb5.mono hBV.size)
              have hS5 : Below W.heap.size W w5 := hSV.trans (hb5.mono hSV.size)
              have bx : w4.heap.size < w5.heap.size := hX5.lt
              clear hX hBV hSV
              have hK' := hK.below hS5 zz0
              have hZ' := hZ.below hS5 zz1
              have k0 := hK'.at 0 _ rfl
              have k1 := hK'.at 1 _ rfl
              have k2 := hK'.at 2 _ rfl
              have k3 := hK'.at 3 _ rfl
              have k4 := hK'.at 4 _ rfl
              have k5 := hK'.at 5 _ rfl
              have z0 := hZ'.at 0 _ rfl
              have z1 := hZ'.at 1 _ rfl
              have z2 := hZ'.at 2 _ rfl
              have z3 := hZ'.at 3 _ rfl
              have z4 := hZ'.at 4 _ rfl
              have z5 := hZ'.at 5 _ rfl
              have f0 := hZ'.free 0 _ rfl
              have f1 := hZ'.free 1 _ rfl
              have f2 := hZ'.free 2 _ rfl
              have f3 := hZ'.free 3 _ rfl
              have f4 := hZ'.free 4 _ rfl
              have f5 := hZ'.free 5 _ rfl
              have kl := hK'.lt
              have fl := hZ'.lt
              have x0 := hX5.at 0 _ rfl
              have x1 := hX5.at 1 _ rfl
              go_wp2_with fail
              refine (HI.out _ (Kd.C_below hr.out hB5)).mono ?_
              rintro e w6 ⟨rfl, hb6⟩
              have hX6 := hX5.below hb6 hX5.lt
              have hB6 : Below w.heap.size w w6 := hB5.trans (hb6.mono hB5.size)
              have hS6 : Below W.heap.size W w6 := hS5.trans (hb6.mono hS5.size)
              clear hX5 x0 x1 hK' hZ' k0 k1 k2 k3 k4 k5 z0 z1 z2 z3 z4 z5 f0 f1 f2 f3 f4 f5 kl fl
              have hK' := hK.below hS6 zz0
              have hZ' := hZ.below hS6 zz1
              have k0 := hK'.at 0 _ rfl
              have k1 := hK'.at 1 _ rfl
              have k2 := hK'.at 2 _ rfl
              have k3 := hK'.at 3 _ rfl
              have k4 := hK'.at 4 _ rfl
              have k5 := hK'.at 5 _ rfl
              have z0 := hZ'.at 0 _ rfl
              have z1 := hZ'.at 1 _ rfl
              have z2 := hZ'.at 2 _ rfl
              have z3 := hZ'.at 3 _ rfl
              have z4 := hZ'.at 4 _ rfl
              have z5 := hZ'.at 5 _ rfl
              have f0 := hZ'.free 0 _ rfl
              have f1 := hZ'.free 1 _ rfl
              have f2 := hZ'.free 2 _ rfl
              have f3 := hZ'.free 3 _ rfl
              have f4 := hZ'.free 4 _ rfl
              have f5 := hZ'.free 5 _ rfl
              have kl := hK'.lt
              have fl := hZ'.lt
              go_wp2_with fail
              obtain ⟨V, hV⟩ : ∃ V : World, V = w6.alloc (.cells #[.int .i64 3, .string fr.loc, .string fr.dom, .slice none 0 0, .string ⟨#[]⟩, .bool false] 52) := ⟨_, rfl⟩
              have hO : Blk V w6.heap.size [.int .i64 3, .string fr.loc, .string fr.dom, .slice none 0 0, .string ⟨#[]⟩, .bool false] := by rw [hV]; exact Blk.made _ _ _
              have hBV : Below w6.heap.size w6 V := by rw [hV]; exact (by repeat (first | exact Below.refl _ _ | apply below_alloc | apply pw_below_drewN | apply below_drew1 | (refine Below.setCell ?_ (by first | (simp; done) | (simp; omega) | omega) _) ))
              have hzV : V.heap.size = w6.heap.size + 1 := by rw [hV]; simp
              rw [← hV]
              replace hV := Lib.hid hV
              have x6l := hX6.lt
              go_loopw [15] (fun i wr => ∃ (k : Nat) (v : Value), k ≤ to_.length ∧ i = .int .i64 k ∧ Blk wr w6.heap.size [.int .i64 3, .string fr.loc, .string fr.dom, v, .string ⟨#[]⟩, .bool false] ∧ Kd.R kAAddress 49 wr (w6.heap.size + 1) (fun _ => True) v (to_.take k) ∧ Below w6.heap.size w6 wr) (fun i _ => to_.length - (intOf i).toNat)
              case atStart => exact ⟨0, _, Nat.zero_le _, rfl, hO, Kd.R_nil _ _ _ _ _, hBV⟩
              case round =>
                clear hO hBV k0 k1 k2 k3 k4 k5 z0 z1 z2 z3 z4 z5 f0 f1 f2 f3 f4 f5 kl fl
                obtain ⟨k, v, hk, rfl, hO, hR, hB⟩ := hrel
                have hB7 : Below w.heap.size w wr := hB6.trans (hB.mono hB6.size)
                have hK7 := hK'.below hB hK'.lt
                have hZ7 := hZ'.below hB hZ'.lt
                have hX7 := hX6.below hB hX6.lt
                have zs7 := hB.size
                have ol := hO.lt
                have s67 := hB6.size
                have k1l := hZ'.lt
                have h5' := h5
                replace HZ0 := Lib.hid HZ0
                obtain ⟨A1, c1, rfl⟩ := Kd.R_slice hR
                have hlk : (to_.take k).length = k := by rw [List.length_take]; omega
                rw [hlk] at hO
                rw [hlk] at hR
                replace hlk := Lib.hid hlk
                by_cases hlt : k < to_.length
                · obtain ⟨ad, e1, hx0, hxj⟩ := flat_at hr.out k hlt
                  subst e1
                  have p0 := hx0 _ rfl; have p1 := hxj 1 _ (by decide) rfl
                  have q0 := pw_cell_below hB7 p0
                  have q1 := pw_cell_below hB7 p1
                  have had : (ad.add (k * 2)).block ≠ w6.heap.size := by
                    have := World.block_lt_of_cell? w _ p0
                    omega
                  replace p0 := Lib.hid p0
                  replace p1 := Lib.hid p1
                  clear hx0 hxj
                  have hts := Lib.hid (List.take_succ_eq_append_getElem hlt)
                  generalize to_[k] = y at *
                  have k3 := hK7.at 3 _ rfl
                  have i0 : (0 : Int) ≤ (k : Int) := by omega
                  have i1 : (k : Int) < (to_.length : Int) := by omega
                  have kl := hK7.lt
                  clear hK' hZ' hX6 hb6 hB6 hS6
                  go_wp2_with fail
                  have hOd := hO.drew
                  have hRd := Kd.R_drew hR
                  have hBd : Below w6.heap.size w6 wr.drew := below_drew1 hB
                  have hB7d : Below w.heap.size w wr.drew := below_drew1 hB7
                  have hK7d := hK7.drew
                  have hZ7d := hZ7.drew
                  have hX7d := hX7.drew
                  have k3d := hK7.drew.at 3 _ rfl
                  have q0d : wr.drew.cell? (ad.add (k * 2)) = some (.string y.loc) := q0
                  have q1d : wr.drew.cell? ⟨(ad.add (k * 2)).block, (ad.add (k * 2)).off + 1, none⟩ = some (.string y.dom) := q1
                  have zd : w6.heap.size + 1 ≤ wr.drew.heap.size := hOd.lt
                  have o3d := hOd.at 3 _ rfl
                  refine wp_region_held_drew (S := fun w' => w'.cell? ⟨w.heap.size, 3, none⟩ = some (.slice (some ad) to_.length c) ∧ w'.cell? (ad.add (k * 2)) = some (.string y.loc) ∧ w'.cell? ⟨(ad.add (k * 2)).block, (ad.add (k * 2)).off + 1, none⟩ = some (.string y.dom)) (by kernel_rfl) ?_ (fun hHeld => ?_)
                  · exact ⟨k3d, q0d, q1d⟩
                  refine wpAnyH_take (i := 0) (oi := { dst := some 101, op := _, type := _, pos := _, after := _, guard := _ }) (v := .pointer (some ⟨w6.heap.size, 3, none⟩)) rfl (by kernel_rfl) (by kernel_rfl) (by kernel_rfl) (fun _ _ _ h => h) (Or.inl ⟨by rfl, by (intro w hSw; (try dsimp only at hSw); first | (go_simp; done) | (go_simp; with_reducible rfl) | (go_simp; omega) | (go_simp; simp [*]; done))⟩) (by assumption) ?_; try simp only [Act.put, List.setIfInBounds_toArray, List.set_cons_zero, List.set_cons_succ]
                  refine wpAnyH_take (i := 2) (oi := { dst := some 103, op := _, type := _, pos := _, after := _, guard := _ }) (v := .pointer (some ⟨w.heap.size, 3, none⟩)) rfl (by kernel_rfl) (by kernel_rfl) (by kernel_rfl) (fun _ _ _ h => h) (Or.inl ⟨by rfl, by (intro w hSw; (try dsimp only at hSw); first | (go_simp; done) | (go_simp; with_reducible rfl) | (go_simp; omega) | (go_simp; simp [*]; done))⟩) (by assumption) ?_; try simp only [Act.put, List.setIfInBounds_toArray, List.set_cons_zero, List.set_cons_succ]
                  refine wpAnyH_take (i := 3) (oi := { dst := some 104, op := _, type := _, pos := _, after := _, guard := _ }) (v := .slice (some ad) to_.length c) rfl (by kernel_rfl) (by kernel_rfl) (by kernel_rfl) (fun _ _ _ h => h) (Or.inl ⟨by rfl, by (intro w hSw; (try dsimp only at hSw); first | (go_simp; done) | (go_simp; with_reducible rfl) | (go_simp; omega) | (go_simp; simp [*]; done))⟩) (by assumption) ?_; try simp only [Act.put, List.setIfInBounds_toArray, List.set_cons_zero, List.set_cons_succ]
                  refine wpAnyH_take (i := 4) (oi := { dst := some 105, op := _, type := _, pos := _, after := _, guard := _ }) (v := .int .i64 k) rfl (by kernel_rfl) (by kernel_rfl) (by kernel_rfl) (fun _ _ _ h => h) (Or.inl ⟨by rfl, by (intro w hSw; (try dsimp only at hSw); first | (go_simp; done) | (go_simp; with_reducible rfl) | (go_simp; omega) | (go_simp; simp [*]; done))⟩) (by assumption) ?_; try simp only [Act.put, List.setIfInBounds_toArray, List.set_cons_zero, List.set_cons_succ]
                  refine wpAnyH_take (i := 5) (oi := { dst := some 106, op := _, type := _, pos := _, after := _, guard := _ }) (v := .pointer (some (ad.add (k * 2)))) rfl (by kernel_rfl) (by kernel_rfl) (by kernel_rfl) (fun _ _ _ h => h) (Or.inl ⟨by rfl, by (intro w hSw; (try dsimp only at hSw); first | (go_simp; done) | (go_simp; with_reducible rfl) | (go_simp; omega) | (go_simp; simp [*]; done))⟩) (by assumption) ?_; try simp only [Act.put, List.setIfInBounds_toArray, List.set_cons_zero, List.set_cons_succ]
                  refine wpAnyH_take (i := 6) (oi := { dst := some 107, op := _, type := _, pos := _, after := _, guard := _ }) (v := .agg #[.string y.loc, .string y.dom]) rfl (by kernel_rfl) (by kernel_rfl) (by kernel_rfl) (fun _ _ _ h => h) (Or.inl ⟨by rfl, by (intro w hSw; (try dsimp only at hSw); first | (go_simp; done) | (go_simp; with_reducible rfl) | (go_simp; omega) | (go_simp; simp [*]; done))⟩) (by assumption) ?_; try simp only [Act.put, List.setIfInBounds_toArray, List.set_cons_zero, List.set_cons_succ]
                  generalize wr.drew = V2 at *
                  refine wpAnyH_ready (rs := [1, 7]) (by kernel_rfl) (by simp) ?_
                  refine AllReadyH.cons (o := { dst := some 102, op := _, type := _, pos := _, after := _, guard := _ }) rfl (fun K hK => ?_) (AllReadyH.cons (o := { dst := some 108, op := _, type := _, pos := _, after := _, guard := _ }) rfl (fun K hK => ?_) AllReadyH.nil)
                  · go_simp
                    refine hK.out _ _ ⟨k3d, q0d, q1d⟩ (fun hHeld => ?_)
                    clear hK K
                    refine wpAnyH_ready (rs := [7]) (by kernel_rfl) (by simp) ?_
                    refine AllReadyH.cons (o := { dst := some 108, op := _, type := _, pos := _, after := _, guard := _ }) rfl (fun K hK => ?_) AllReadyH.nil
                    go_simp
                    refine hK.out _ _ ⟨cell_alloc' k3d _, cell_alloc' q0d _, cell_alloc' q1d _⟩ (fun hHeld => ?_)
                    clear hK K
                    refine wpAnyH_ready (rs := [8]) (by kernel_rfl) (by simp) ?_
                    refine AllReadyH.cons (o := { dst := some 109, op := _, type := _, pos := _, after := _, guard := _ }) rfl (fun K hK => ?_) AllReadyH.nil
                    refine snoc_step rowAAddress (w6.heap.size + 1) (by rfl) (.tmp 102) (.tmp 108) (by rfl) (.slice A1 k c1) (to_.take k) y [.string y.loc, .string y.dom] (by rfl) (by rfl) rfl hRd (by omega) (by rw [hlk.out]; omega) ?_
                    intro v8 w8 hR8 hb8 hg8
                    obtain ⟨A8, c8, rfl⟩ := Kd.R_slice hR8
                    rw [List.length_append, hlk.out] at hR8 ⊢
                    have O8 := hOd.beside hRd hg8 (by omega)
                    have e0 := (hb8.cell (p := ⟨w.heap.size, 3, none⟩) (by show w.heap.size < _; omega)).trans k3d
                    have hB8 : Below w.heap.size w w8 := hB7d.trans (hb8.mono (by omega))
                    have e1 := pw_cell_below hB8 p0.out
                    have e2 := pw_cell_below hB8 p1.out
                    refine hK.out _ _ ⟨e0, e1, e2⟩ (fun hHeld => ?_)
                    clear hK K
                    have o38 := O8.at 3 _ rfl
                    have f38 := O8.free 3 _ rfl
                    have l38 := O8.lt
                    refine wpAnyH_take (i := 9) (oi := { dst := some 110, op := _, type := _, pos := _, after := _, guard := _ }) (v := .pointer (some ⟨w6.heap.size, 3, none⟩)) rfl (by kernel_rfl) (by kernel_rfl) (by kernel_rfl) (fun _ _ _ h => h) (Or.inl ⟨by rfl, by (intro w hSw; (try dsimp only at hSw); first | (go_simp; done) | (go_simp; with_reducible rfl) | (go_simp; omega) | (go_simp; simp [*]; done))⟩) (by assumption) ?_; try simp only [Act.put, List.setIfInBounds_toArray, List.set_cons_zero, List.set_cons_succ]
                    refine wpAnyH_ready (rs := [10]) (by kernel_rfl) (by simp) ?_
                    refine AllReadyH.cons (o := { dst := none, op := _, type := _, pos := _, after := _, guard := _ }) rfl (fun K hK => ?_) AllReadyH.nil
                    go_simp
                    refine hK.out _ _ ⟨cell_other' e0 (by show w.heap.size ≠ w6.heap.size; omega) _, cell_other' e1 had _, cell_other' e2 had _⟩ (fun hHeld => ?_)
                    clear hK K
                    refine wpAnyH_done (by kernel_rfl) ?_ _
                    go_wp2_with fail
                    go_roundw
                    case rel => exact ⟨k + 1, .slice A8 (k + 1) c8, hlt, by go_num, O8.set 3 _ (by simp), R_elder (by rw [hts.out]; exact hR8) (by show w6.heap.size < w6.heap.size + 1; omega) _, Below.setCell (hBd.trans (hb8.mono (by omega))) (by show w6.heap.size ≤ w6.heap.size; omega) _⟩
                    case measure => simp [intOf]; omega
                  · go_simp
                    refine hK.out _ _ ⟨cell_alloc' k3d _, cell_alloc' q0d _, cell_alloc' q1d _⟩ (fun hHeld => ?_)
                    clear hK K
                    have o3a := cell_alloc' o3d (.cells #[.string y.loc, .string y.dom] 49)
                    refine wpAnyH_ready (rs := [1]) (by kernel_rfl) (by simp) ?_
                    refine AllReadyH.cons (o := { dst := some 102, op := _, type := _, pos := _, after := _, guard := _ }) rfl (fun K hK => ?_) AllReadyH.nil
                    go_simp
                    refine hK.out _ _ ⟨cell_alloc' k3d _, cell_alloc' q0d _, cell_alloc' q1d _⟩ (fun hHeld => ?_)
                    clear hK K
                    refine wpAnyH_ready (rs := [8]) (by kernel_rfl) (by simp) ?_
                    refine AllReadyH.cons (o := { dst := some 109, op := _, type := _, pos := _, after := _, guard := _ }) rfl (fun K hK => ?_) AllReadyH.nil
                    refine snoc_step rowAAddress (w6.heap.size + 1) (by rfl) (.tmp 102) (.tmp 108) (by rfl) (.slice A1 k c1) (to_.take k) y [.string y.loc, .string y.dom] (by rfl) (by rfl) rfl hRd (by omega) (by rw [hlk.out]; omega) ?_
                    intro v8 w8 hR8 hb8 hg8
                    obtain ⟨A8, c8, rfl⟩ := Kd.R_slice hR8
                    rw [List.length_append, hlk.out] at hR8 ⊢
                    have O8 := hOd.beside hRd hg8 (by omega)
                    have e0 := (hb8.cell (p := ⟨w.heap.size, 3, none⟩) (by show w.heap.size < _; omega)).trans k3d
                    have hB8 : Below w.heap.size w w8 := hB7d.trans (hb8.mono (by omega))
                    have e1 := pw_cell_below hB8 p0.out
                    have e2 := pw_cell_below hB8 p1.out
                    refine hK.out _ _ ⟨e0, e1, e2⟩ (fun hHeld => ?_)
                    clear hK K
                    have o38 := O8.at 3 _ rfl
                    have f38 := O8.free 3 _ rfl
                    have l38 := O8.lt
                    refine wpAnyH_take (i := 9) (oi := { dst := some 110, op := _, type := _, pos := _, after := _, guard := _ }) (v := .pointer (some ⟨w6.heap.size, 3, none⟩)) rfl (by kernel_rfl) (by kernel_rfl) (by kernel_rfl) (fun _ _ _ h => h) (Or.inl ⟨by rfl, by (intro w hSw; (try dsimp only at hSw); first | (go_simp; done) | (go_simp; with_reducible rfl) | (go_simp; omega) | (go_simp; simp [*]; done))⟩) (by assumption) ?_; try simp only [Act.put, List.setIfInBounds_toArray, List.set_cons_zero, List.set_cons_succ]
                    refine wpAnyH_ready (rs := [10]) (by kernel_rfl) (by simp) ?_
                    refine AllReadyH.cons (o := { dst := none, op := _, type := _, pos := _, after := _, guard := _ }) rfl (fun K hK => ?_) AllReadyH.nil
                    go_simp
                    refine hK.out _ _ ⟨cell_other' e0 (by show w.heap.size ≠ w6.heap.size; omega) _, cell_other' e1 had _, cell_other' e2 had _⟩ (fun hHeld => ?_)
                    clear hK K
                    refine wpAnyH_done (by kernel_rfl) ?_ _
                    go_wp2_with fail
                    go_roundw
                    case rel => exact ⟨k + 1, .slice A8 (k + 1) c8, hlt, by go_num, O8.set 3 _ (by simp), R_elder (by rw [hts.out]; exact hR8) (by show w6.heap.size < w6.heap.size + 1; omega) _, Below.setCell (hBd.trans (hb8.mono (by omega))) (by show w6.heap.size ≤ w6.heap.size; omega) _⟩
                    case measure => simp [intOf]; omega
                · obtain rfl : k = to_.length := by omega
                  rw [List.take_length] at hR
                  have k3 := hK7.at 3 _ rfl
                  have i1 : ¬ (to_.length : Int) < (to_.length : Int) := by omega
                  have kl := hK7.lt
                  have o0 := hO.at 0 _ rfl
                  have o1 := hO.at 1 _ rfl
                  have o2 := hO.at 2 _ rfl
                  have o3 := hO.at 3 _ rfl
                  have o4 := hO.at 4 _ rfl
                  have o5 := hO.at 5 _ rfl
                  have of := hO.free 3 _ rfl
                  have x0 := hX7.at 0 _ rfl
                  have x1 := hX7.at 1 _ rfl
                  have xl := hX7.lt
                  clear hK' hZ' hX6 hb6 hB6 hS6
                  go_wp2_with (at_builtin; refine snoc_list rowAAddress (w6.heap.size + 1) rfl _ _ rfl (.slice A1 to_.length c1) to_ x [.string x.loc, .string x.dom] (by first | rfl | (simp [Act.eval]; done)) (by first | rfl | (simp [Act.eval]; done)) rfl hR (by omega) (by omega) ?_)
                  intro v8 w8 hR8 hb8 hg8
                  obtain ⟨A8, c8, rfl⟩ := Kd.R_slice hR8
                  obtain ⟨n8, hn8⟩ : ∃ n8, n8 = (to_ ++ [x]).length := ⟨_, rfl⟩
                  rw [← hn8] at hR8 ⊢
                  replace hn8 := Lib.hid hn8
                  have O8 := hO.beside hR hg8 (by omega)
                  have hB8 : Below w.heap.size w w8 := hB7.trans (hb8.mono (by omega))
                  have Z8 := hZ7.below hb8 (by omega)
                  clear o0 o1 o2 o3 o4 o5 of x0 x1 xl kl k3
                  have o0 := O8.at 0 _ rfl
                  have o1 := O8.at 1 _ rfl
                  have o2 := O8.at 2 _ rfl
                  have o3 := O8.at 3 _ rfl
                  have o4 := O8.at 4 _ rfl
                  have o5 := O8.at 5 _ rfl
                  have of := O8.free 3 _ rfl
                  have ol8 := O8.lt
                  have zl8 := Z8.lt
                  have z0 := Z8.at 0 _ rfl
                  have z1 := Z8.at 1 _ rfl
                  have z2 := Z8.at 2 _ rfl
                  have z3 := Z8.at 3 _ rfl
                  have z4 := Z8.at 4 _ rfl
                  have z5 := Z8.at 5 _ rfl
                  have f0 := Z8.free 0 _ rfl
                  have f1 := Z8.free 1 _ rfl
                  have f2 := Z8.free 2 _ rfl
                  have f3 := Z8.free 3 _ rfl
                  have f4 := Z8.free 4 _ rfl
                  have f5 := Z8.free 5 _ rfl
                  have ne1 : ¬ w.heap.size + 1 = w6.heap.size := by omega
                  have ne2 : ¬ w6.heap.size = w.heap.size + 1 := by omega
                  go_wp2_with fail
                  refine bodyPost_ret (v := .tuple #[.agg #[.int .i64 3, .string fr.loc, .string fr.dom, .slice A8 n8 c8, .string ⟨#[]⟩, .bool false], .int .i64 250]) (by simp [results, Tryd.results68, go_sem, *]) rfl (postCmd_R (elder_six (R_elder hR8 (show w6.heap.size < w6.heap.size + 1 by omega) _) (by omega)) rfl (below_six (Below.setCell hB8 (show w.heap.size ≤ w6.heap.size by omega) _) (Nat.le_succ _)) (by omega))
  · rw [if_neg h1]
    have i1 : (st != 2) = true := bne_iff_ne.mpr (by omega)
    have i2 : (st != 3) = true := bne_iff_ne.mpr (by omega)
    clear h1
    skip
    skip
    skip
    go_enter Tryd.func68, Tryd.ntmps68
    go_wp2_with fail
    obtain ⟨W, hW⟩ : ∃ W : World, W = (w.alloc (.cells #[.int .i64 st, .string fr.loc, .string fr.dom, .slice A to_.length c, .string tx, .bool lg] 52)).alloc (.cells #[.int .i64 0, .string ⟨#[]⟩, .string ⟨#[]⟩, .slice none 0 0, .string ⟨#[]⟩, .bool false] 52) := ⟨_, rfl⟩
    have hK : Blk W w.heap.size [.int .i64 st, .string fr.loc, .string fr.dom, .slice A to_.length c, .string tx, .bool lg] := by rw [hW]; exact (Blk.made w _ _).alloc _
    have hZ : Blk W (w.heap.size + 1) [.int .i64 0, .string ⟨#[]⟩, .string ⟨#[]⟩, .slice none 0 0, .string ⟨#[]⟩, .bool false] := by rw [hW]; exact Blk.made_at _ _ _ (by simp)
    have hb0 : Below w.heap.size w W := by rw [hW]; exact (by repeat (first | exact Below.refl _ _ | apply below_alloc | apply pw_below_drewN | apply below_drew1 | (refine Below.setCell ?_ (by first | (simp; done) | (simp; omega) | omega) _) ))
    have hz0 : W.heap.size = w.heap.size + 2 := by rw [hW]; simp
    rw [← hW]
    replace hW := Lib.hid hW
    have HZ0 := Lib.hid hz0
    have zz1 : w.heap.size + 1 < W.heap.size := by omega
    have zz0 : w.heap.size < W.heap.size := by omega
    clear hz0
    skip
    skip
    refine (HL.out _).mono ?_
    rintro e w1 ⟨rfl, hb1⟩
    have hB1 : Below w.heap.size w w1 := hb0.trans (hb1.mono (by have := hb0.size; omega))
    have hS1 : Below W.heap.size W w1 := hb1
    go_wp2_with fail
    refine (HM.out _).mono ?_
    rintro e w2 ⟨rfl, hb2⟩
    have hB2 : Below w.heap.size w w2 := hB1.trans (hb2.mono hB1.size)
    have hS2 : Below W.heap.size W w2 := hS1.trans (hb2.mono hS1.size)
    go_wp2_with fail
    refine (HR.out _).mono ?_
    rintro e w3 ⟨rfl, hb3⟩
    have hB3 : Below w.heap.size w w3 := hB2.trans (hb3.mono hB2.size)
    have hS3 : Below W.heap.size W w3 := hS2.trans (hb3.mono hS2.size)
    go_wp2_with fail
    refine (HA.out _).mono ?_
    rintro e w4 ⟨x, rfl, hx, hb4⟩
    have hB4 : Below w.heap.size w w4 := (hB3).trans (hb4.mono (hB3).size)
    have hK' := hK.below (hS3.trans (hb4.mono hS3.size)) zz0
    have hZ' := hZ.below (hS3.trans (hb4.mono hS3.size)) zz1
    have k0 := hK'.at 0 _ rfl
    have k1 := hK'.at 1 _ rfl
    have k2 := hK'.at 2 _ rfl
    have k3 := hK'.at 3 _ rfl
    have k4 := hK'.at 4 _ rfl
    have k5 := hK'.at 5 _ rfl
    have z0 := hZ'.at 0 _ rfl
    have z1 := hZ'.at 1 _ rfl
    have z2 := hZ'.at 2 _ rfl
    have z3 := hZ'.at 3 _ rfl
    have z4 := hZ'.at 4 _ rfl
    have z5 := hZ'.at 5 _ rfl
    have f0 := hZ'.free 0 _ rfl
    have f1 := hZ'.free 1 _ rfl
    have f2 := hZ'.free 2 _ rfl
    have f3 := hZ'.free 3 _ rfl
    have f4 := hZ'.free 4 _ rfl
    have f5 := hZ'.free 5 _ rfl
    have kl := hK'.lt
    have fl := hZ'.lt
    clear hx
    skip
    go_wp2_with fail
    refine bodyPost_ret (v := .tuple #[.agg #[.int .i64 st, .string fr.loc, .string fr.dom, .slice A to_.length c, .string tx, .bool lg], .int .i64 503]) (by simp [results, Tryd.results68, go_sem, *]) rfl (postCmd_same rfl hc.out (below_sixA hB4 (Nat.le_succ _)))
end Go.Proofs.YtijdghplfhfpaaaDoor.H

/- Lines: what a command does: the reference's words; the whole. -/
namespace Go.Proofs.YtijdghplfhfpaaaDoor.H
open Go.RowKit Go.Proofs.YtijdghplfhfpaaaDoorW.PrintWords Go.Proofs.YtijdghplfhfpaaaDoorW.PrintLast Go.Proofs.YtijdghplfhfpaaaDoor.U
set_option linter.unusedVariables false
set_option linter.unusedSimpArgs false
set_option maxHeartbeats 1000000 in
set_option maxRecDepth 100000 in
theorem commanded_word (A : Option Addr) (c : Nat) (A0 : Option Addr) (c0 : Nat) (kn : List ByteArray) (line : ByteArray) (w : World) (st : Int) (fr : AAddress) (to_ : List AAddress) (tx : ByteArray) (lg : Bool) (hr : Kd.C kAAddress w A to_.length to_) (hc : to_.length ≤ c) (hz : line.size ≤ 300) (o1 : behV line (⟨#[76, 72, 76, 79, 32]⟩ : ByteArray) = none) (o2 : behV line (⟨#[77, 65, 73, 76, 32, 70, 82, 79, 77, 58]⟩ : ByteArray) = none) (o3 : behV line (⟨#[82, 67, 80, 84, 32, 84, 79, 58]⟩ : ByteArray) = none) : Calls Tryd.prog 68 #[.agg #[.int .i64 st, .string fr.loc, .string fr.dom, .slice A to_.length c, .string tx, .bool lg], .slice A0 kn.length c0, .string line] w (PostCmd w A to_ (wordR ⟨st, fr, to_, tx, lg⟩ (lowS line))) := by
  replace hr := Lib.hid hr
  replace hc := Lib.hid hc
  have i1 : ¬ (300 : Int) < (line.size : Int) := by omega
  have HL := Lib.hid (fun w => behind_calls line (⟨#[76, 72, 76, 79, 32]⟩ : ByteArray) w (by omega) (by decide))
  rw [o1] at HL
  clear o1
  have HM := Lib.hid (fun w => behind_calls line (⟨#[77, 65, 73, 76, 32, 70, 82, 79, 77, 58]⟩ : ByteArray) w (by omega) (by decide))
  rw [o2] at HM
  clear o2
  have HR := Lib.hid (fun w => behind_calls line (⟨#[82, 67, 80, 84, 32, 84, 79, 58]⟩ : ByteArray) w (by omega) (by decide))
  rw [o3] at HR
  clear o3
  have HF := Lib.hid (fun w => lower_calls line w (by omega))
  unfold wordR
  generalize lowS line = L at *
  simp only
  by_cases e1 : L = (⟨#[100, 97, 116, 97]⟩ : ByteArray)
  · rw [if_pos e1]
    subst e1
    by_cases h3 : st = 3
    · rw [if_pos h3]
      have i3 : (st != 3) = false := by rw [h3]; rfl
      clear h3
      skip
      skip
      skip
      go_enter Tryd.func68, Tryd.ntmps68
      go_wp2_with fail
      obtain ⟨W, hW⟩ : ∃ W : World, W = (w.alloc (.cells #[.int .i64 st, .string fr.loc, .string fr.dom, .slice A to_.length c, .string tx, .bool lg] 52)).alloc (.cells #[.int .i64 0, .string ⟨#[]⟩, .string ⟨#[]⟩, .slice none 0 0, .string ⟨#[]⟩, .bool false] 52) := ⟨_, rfl⟩
      have hK : Blk W w.heap.size [.int .i64 st, .string fr.loc, .string fr.dom, .slice A to_.length c, .string tx, .bool lg] := by rw [hW]; exact (Blk.made w _ _).alloc _
      have hZ : Blk W (w.heap.size + 1) [.int .i64 0, .string ⟨#[]⟩, .string ⟨#[]⟩, .slice none 0 0, .string ⟨#[]⟩, .bool false] := by rw [hW]; exact Blk.made_at _ _ _ (by simp)
      have hb0 : Below w.heap.size w W := by rw [hW]; exact (by repeat (first | exact Below.refl _ _ | apply below_alloc | apply pw_below_drewN | apply below_drew1 | (refine Below.setCell ?_ (by first | (simp; done) | (simp; omega) | omega) _) ))
      have hz0 : W.heap.size = w.heap.size + 2 := by rw [hW]; simp
      rw [← hW]
      replace hW := Lib.hid hW
      have HZ0 := Lib.hid hz0
      have zz1 : w.heap.size + 1 < W.heap.size := by omega
      have zz0 : w.heap.size < W.heap.size := by omega
      clear hz0
      skip
      skip
      refine (HL.out _).mono ?_
      rintro e w1 ⟨rfl, hb1⟩
      have hB1 : Below w.heap.size w w1 := hb0.trans (hb1.mono (by have := hb0.size; omega))
      have hS1 : Below W.heap.size W w1 := hb1
      go_wp2_with fail
      refine (HM.out _).mono ?_
      rintro e w2 ⟨rfl, hb2⟩
      have hB2 : Below w.heap.size w w2 := hB1.trans (hb2.mono hB1.size)
      have hS2 : Below W.heap.size W w2 := hS1.trans (hb2.mono hS1.size)
      go_wp2_with fail
      refine (HR.out _).mono ?_
      rintro e w3 ⟨rfl, hb3⟩
      have hB3 : Below w.heap.size w w3 := hB2.trans (hb3.mono hB2.size)
      have hS3 : Below W.heap.size W w3 := hS2.trans (hb3.mono hS2.size)
      go_wp2_with fail
      have Bw3 := hB3
      have Sw3 := hS3
      refine (HF.out _).mono ?_
      rintro e w4 ⟨rfl, hw4⟩
      have Bw4 : Below w.heap.size w w4 := (Bw3).trans ((hw4).mono (Bw3).size)
      have Sw4 : Below W.heap.size W w4 := (Sw3).trans ((hw4).mono (Sw3).size)
      have hK' := hK.below Sw4 zz0
      have hZ' := hZ.below Sw4 zz1
      have k0 := hK'.at 0 _ rfl
      have k1 := hK'.at 1 _ rfl
      have k2 := hK'.at 2 _ rfl
      have k3 := hK'.at 3 _ rfl
      have k4 := hK'.at 4 _ rfl
      have k5 := hK'.at 5 _ rfl
      have z0 := hZ'.at 0 _ rfl
      have z1 := hZ'.at 1 _ rfl
      have z2 := hZ'.at 2 _ rfl
      have z3 := hZ'.at 3 _ rfl
      have z4 := hZ'.at 4 _ rfl
      have z5 := hZ'.at 5 _ rfl
      have f0 := hZ'.free 0 _ rfl
      have f1 := hZ'.free 1 _ rfl
      have f2 := hZ'.free 2 _ rfl
      have f3 := hZ'.free 3 _ rfl
      have f4 := hZ'.free 4 _ rfl
      have f5 := hZ'.free 5 _ rfl
      have kl := hK'.lt
      have fl := hZ'.lt
      have g0 := hK'.free 0 _ rfl
      go_wp2_with fail
      refine bodyPost_ret (v := .tuple #[.agg #[.int .i64 4, .string fr.loc, .string fr.dom, .slice A to_.length c, .string tx, .bool lg], .int .i64 354]) (by simp [results, Tryd.results68, go_sem, *]) rfl (postCmd_same rfl hc.out (below_six (Below.setCell Bw4 (Nat.le_refl _) _) (Nat.le_succ _)))
    · rw [if_neg h3]
      have i3 : (st != 3) = true := bne_iff_ne.mpr h3
      clear h3
      skip
      skip
      skip
      go_enter Tryd.func68, Tryd.ntmps68
      go_wp2_with fail
      obtain ⟨W, hW⟩ : ∃ W : World, W = (w.alloc (.cells #[.int .i64 st, .string fr.loc, .string fr.dom, .slice A to_.length c, .string tx, .bool lg] 52)).alloc (.cells #[.int .i64 0, .string ⟨#[]⟩, .string ⟨#[]⟩, .slice none 0 0, .string ⟨#[]⟩, .bool false] 52) := ⟨_, rfl⟩
      have hK : Blk W w.heap.size [.int .i64 st, .string fr.loc, .string fr.dom, .slice A to_.length c, .string tx, .bool lg] := by rw [hW]; exact (Blk.made w _ _).alloc _
      have hZ : Blk W (w.heap.size + 1) [.int .i64 0, .string ⟨#[]⟩, .string ⟨#[]⟩, .slice none 0 0, .string ⟨#[]⟩, .bool false] := by rw [hW]; exact Blk.made_at _ _ _ (by simp)
      have hb0 : Below w.heap.size w W := by rw [hW]; exact (by repeat (first | exact Below.refl _ _ | apply below_alloc | apply pw_below_drewN | apply below_drew1 | (refine Below.setCell ?_ (by first | (simp; done) | (simp; omega) | omega) _) ))
      have hz0 : W.heap.size = w.heap.size + 2 := by rw [hW]; simp
      rw [← hW]
      replace hW := Lib.hid hW
      have HZ0 := Lib.hid hz0
      have zz1 : w.heap.size + 1 < W.heap.size := by omega
      have zz0 : w.heap.size < W.heap.size := by omega
      clear hz0
      skip
      skip
      refine (HL.out _).mono ?_
      rintro e w1 ⟨rfl, hb1⟩
      have hB1 : Below w.heap.size w w1 := hb0.trans (hb1.mono (by have := hb0.size; omega))
      have hS1 : Below W.heap.size W w1 := hb1
      go_wp2_with fail
      refine (HM.out _).mono ?_
      rintro e w2 ⟨rfl, hb2⟩
      have hB2 : Below w.heap.size w w2 := hB1.trans (hb2.mono hB1.size)
      have hS2 : Below W.heap.size W w2 := hS1.trans (hb2.mono hS1.size)
      go_wp2_with fail
      refine (HR.out _).mono ?_
      rintro e w3 ⟨rfl, hb3⟩
      have hB3 : Below w.heap.size w w3 := hB2.trans (hb3.mono hB2.size)
      have hS3 : Below W.heap.size W w3 := hS2.trans (hb3.mono hS2.size)
      go_wp2_with fail
      have Bw3 := hB3
      have Sw3 := hS3
      refine (HF.out _).mono ?_
      rintro e w4 ⟨rfl, hw4⟩
      have Bw4 : Below w.heap.size w w4 := (Bw3).trans ((hw4).mono (Bw3).size)
      have Sw4 : Below W.heap.size W w4 := (Sw3).trans ((hw4).mono (Sw3).size)
      have hK' := hK.below Sw4 zz0
      have hZ' := hZ.below Sw4 zz1
      have k0 := hK'.at 0 _ rfl
      have k1 := hK'.at 1 _ rfl
      have k2 := hK'.at 2 _ rfl
      have k3 := hK'.at 3 _ rfl
      have k4 := hK'.at 4 _ rfl
      have k5 := hK'.at 5 _ rfl
      have z0 := hZ'.at 0 _ rfl
      have z1 := hZ'.at 1 _ rfl
      have z2 := hZ'.at 2 _ rfl
      have z3 := hZ'.at 3 _ rfl
      have z4 := hZ'.at 4 _ rfl
      have z5 := hZ'.at 5 _ rfl
      have f0 := hZ'.free 0 _ rfl
      have f1 := hZ'.free 1 _ rfl
      have f2 := hZ'.free 2 _ rfl
      have f3 := hZ'.free 3 _ rfl
      have f4 := hZ'.free 4 _ rfl
      have f5 := hZ'.free 5 _ rfl
      have kl := hK'.lt
      have fl := hZ'.lt
      go_wp2_with fail
      refine bodyPost_ret (v := .tuple #[.agg #[.int .i64 st, .string fr.loc, .string fr.dom, .slice A to_.length c, .string tx, .bool lg], .int .i64 503]) (by simp [results, Tryd.results68, go_sem, *]) rfl (postCmd_same rfl hc.out (below_six Bw4 (Nat.le_succ _)))
  · rw [if_neg e1]
    have n1 := lit_no (l := [100, 97, 116, 97]) e1
    by_cases e2 : L = (⟨#[114, 115, 101, 116]⟩ : ByteArray)
    · rw [if_pos e2]
      clear n1 e1
      subst e2
      by_cases h0 : st = 0
      · rw [if_pos h0]
        have i3 : (st == 0) = true := by rw [h0]; rfl
        clear h0
        skip
        skip
        skip
        go_enter Tryd.func68, Tryd.ntmps68
        go_wp2_with fail
        obtain ⟨W, hW⟩ : ∃ W : World, W = (w.alloc (.cells #[.int .i64 st, .string fr.loc, .string fr.dom, .slice A to_.length c, .string tx, .bool lg] 52)).alloc (.cells #[.int .i64 0, .string ⟨#[]⟩, .string ⟨#[]⟩, .slice none 0 0, .string ⟨#[]⟩, .bool false] 52) := ⟨_, rfl⟩
        have hK : Blk W w.heap.size [.int .i64 st, .string fr.loc, .string fr.dom, .slice A to_.length c, .string tx, .bool lg] := by rw [hW]; exact (Blk.made w _ _).alloc _
        have hZ : Blk W (w.heap.size + 1) [.int .i64 0, .string ⟨#[]⟩, .string ⟨#[]⟩, .slice none 0 0, .string ⟨#[]⟩, .bool false] := by rw [hW]; exact Blk.made_at _ _ _ (by simp)
        have hb0 : Below w.heap.size w W := by rw [hW]; exact (by repeat (first | exact Below.refl _ _ | apply below_alloc | apply pw_below_drewN | apply below_drew1 | (refine Below.setCell ?_ (by first | (simp; done) | (simp; omega) | omega) _) ))
        have hz0 : W.heap.size = w.heap.size + 2 := by rw [hW]; simp
        rw [← hW]
        replace hW := Lib.hid hW
        have HZ0 := Lib.hid hz0
        have zz1 : w.heap.size + 1 < W.heap.size := by omega
        have zz0 : w.heap.size < W.heap.size := by omega
        clear hz0
        skip
        skip
        refine (HL.out _).mono ?_
        rintro e w1 ⟨rfl, hb1⟩
        have hB1 : Below w.heap.size w w1 := hb0.trans (hb1.mono (by have := hb0.size; omega))
        have hS1 : Below W.heap.size W w1 := hb1
        go_wp2_with fail
        refine (HM.out _).mono ?_
        rintro e w2 ⟨rfl, hb2⟩
        have hB2 : Below w.heap.size w w2 := hB1.trans (hb2.mono hB1.size)
        have hS2 : Below W.heap.size W w2 := hS1.trans (hb2.mono hS1.size)
        go_wp2_with fail
        refine (HR.out _).mono ?_
        rintro e w3 ⟨rfl, hb3⟩
        have hB3 : Below w.heap.size w w3 := hB2.trans (hb3.mono hB2.size)
        have hS3 : Below W.heap.size W w3 := hS2.trans (hb3.mono hS2.size)
        go_wp2_with fail
        have Bw3 := hB3
        have Sw3 := hS3
        refine (HF.out _).mono ?_
        rintro e w4 ⟨rfl, hw4⟩
        have Bw4 : Below w.heap.size w w4 := (Bw3).trans ((hw4).mono (Bw3).size)
        have Sw4 : Below W.heap.size W w4 := (Sw3).trans ((hw4).mono (Sw3).size)
        go_wp2_with fail
        refine (HF.out _).mono ?_
        rintro e w5 ⟨rfl, hw5⟩
        have Bw5 : Below w.heap.size w w5 := (Bw4).trans ((hw5).mono (Bw4).size)
        have Sw5 : Below W.heap.size W w5 := (Sw4).trans ((hw5).mono (Sw4).size)
        have hK' := hK.below Sw5 zz0
        have hZ' := hZ.below Sw5 zz1
        have k0 := hK'.at 0 _ rfl
        have k1 := hK'.at 1 _ rfl
        have k2 := hK'.at 2 _ rfl
        have k3 := hK'.at 3 _ rfl
        have k4 := hK'.at 4 _ rfl
        have k5 := hK'.at 5 _ rfl
        have z0 := hZ'.at 0 _ rfl
        have z1 := hZ'.at 1 _ rfl
        have z2 := hZ'.at 2 _ rfl
        have z3 := hZ'.at 3 _ rfl
        have z4 := hZ'.at 4 _ rfl
        have z5 := hZ'.at 5 _ rfl
        have f0 := hZ'.free 0 _ rfl
        have f1 := hZ'.free 1 _ rfl
        have f2 := hZ'.free 2 _ rfl
        have f3 := hZ'.free 3 _ rfl
        have f4 := hZ'.free 4 _ rfl
        have f5 := hZ'.free 5 _ rfl
        have kl := hK'.lt
        have fl := hZ'.lt
        go_wp2_with fail
        refine bodyPost_ret (v := .tuple #[.agg #[.int .i64 st, .string fr.loc, .string fr.dom, .slice A to_.length c, .string tx, .bool lg], .int .i64 250]) (by simp [results, Tryd.results68, go_sem, *]) rfl (postCmd_same rfl hc.out (below_six Bw5 (Nat.le_succ _)))
      · rw [if_neg h0]
        have i3 : (st == 0) = false := beq_eq_false_iff_ne.mpr h0
        clear h0
        skip
        skip
        skip
        go_enter Tryd.func68, Tryd.ntmps68
        go_wp2_with fail
        obtain ⟨W, hW⟩ : ∃ W : World, W = (w.alloc (.cells #[.int .i64 st, .string fr.loc, .string fr.dom, .slice A to_.length c, .string tx, .bool lg] 52)).alloc (.cells #[.int .i64 0, .string ⟨#[]⟩, .string ⟨#[]⟩, .slice none 0 0, .string ⟨#[]⟩, .bool false] 52) := ⟨_, rfl⟩
        have hK : Blk W w.heap.size [.int .i64 st, .string fr.loc, .string fr.dom, .slice A to_.length c, .string tx, .bool lg] := by rw [hW]; exact (Blk.made w _ _).alloc _
        have hZ : Blk W (w.heap.size + 1) [.int .i64 0, .string ⟨#[]⟩, .string ⟨#[]⟩, .slice none 0 0, .string ⟨#[]⟩, .bool false] := by rw [hW]; exact Blk.made_at _ _ _ (by simp)
        have hb0 : Below w.heap.size w W := by rw [hW]; exact (by repeat (first | exact Below.refl _ _ | apply below_alloc | apply pw_below_drewN | apply below_drew1 | (refine Below.setCell ?_ (by first | (simp; done) | (simp; omega) | omega) _) ))
        have hz0 : W.heap.size = w.heap.size + 2 := by rw [hW]; simp
        rw [← hW]
        replace hW := Lib.hid hW
        have HZ0 := Lib.hid hz0
        have zz1 : w.heap.size + 1 < W.heap.size := by omega
        have zz0 : w.heap.size < W.heap.size := by omega
        clear hz0
        skip
        skip
        refine (HL.out _).mono ?_
        rintro e w1 ⟨rfl, hb1⟩
        have hB1 : Below w.heap.size w w1 := hb0.trans (hb1.mono (by have := hb0.size; omega))
        have hS1 : Below W.heap.size W w1 := hb1
        go_wp2_with fail
        refine (HM.out _).mono ?_
        rintro e w2 ⟨rfl, hb2⟩
        have hB2 : Below w.heap.size w w2 := hB1.trans (hb2.mono hB1.size)
        have hS2 : Below W.heap.size W w2 := hS1.trans (hb2.mono hS1.size)
        go_wp2_with fail
        refine (HR.out _).mono ?_
        rintro e w3 ⟨rfl, hb3⟩
        have hB3 : Below w.heap.size w w3 := hB2.trans (hb3.mono hB2.size)
        have hS3 : Below W.heap.size W w3 := hS2.trans (hb3.mono hS2.size)
        go_wp2_with fail
        have Bw3 := hB3
        have Sw3 := hS3
        refine (HF.out _).mono ?_
        rintro e w4 ⟨rfl, hw4⟩
        have Bw4 : Below w.heap.size w w4 := (Bw3).trans ((hw4).mono (Bw3).size)
        have Sw4 : Below W.heap.size W w4 := (Sw3).trans ((hw4).mono (Sw3).size)
        go_wp2_with fail
        refine (HF.out _).mono ?_
        rintro e w5 ⟨rfl, hw5⟩
        have Bw5 : Below w.heap.size w w5 := (Bw4).trans ((hw5).mono (Bw4).size)
        have Sw5 : Below W.heap.size W w5 := (Sw4).trans ((hw5).mono (Sw4).size)
        have hK' := hK.below Sw5 zz0
        have hZ' := hZ.below Sw5 zz1
        have k0 := hK'.at 0 _ rfl
        have k1 := hK'.at 1 _ rfl
        have k2 := hK'.at 2 _ rfl
        have k3 := hK'.at 3 _ rfl
        have k4 := hK'.at 4 _ rfl
        have k5 := hK'.at 5 _ rfl
        have z0 := hZ'.at 0 _ rfl
        have z1 := hZ'.at 1 _ rfl
        have z2 := hZ'.at 2 _ rfl
        have z3 := hZ'.at 3 _ rfl
        have z4 := hZ'.at 4 _ rfl
        have z5 := hZ'.at 5 _ rfl
        have f0 := hZ'.free 0 _ rfl
        have f1 := hZ'.free 1 _ rfl
        have f2 := hZ'.free 2 _ rfl
        have f3 := hZ'.free 3 _ rfl
        have f4 := hZ'.free 4 _ rfl
        have f5 := hZ'.free 5 _ rfl
        have kl := hK'.lt
        have fl := hZ'.lt
        go_wp2_with fail
        refine bodyPost_ret (v := .tuple #[.agg #[.int .i64 1, .string ⟨#[]⟩, .string ⟨#[]⟩, .slice none 0 0, .string ⟨#[]⟩, .bool false], .int .i64 250]) (by simp [results, Tryd.results68, go_sem, *]) rfl (postCmd_new (fr := ⟨⟨#[]⟩, ⟨#[]⟩⟩) rfl (below_six Bw5 (Nat.le_succ _)))
    · rw [if_neg e2]
      have n2 := lit_no (l := [114, 115, 101, 116]) e2
      by_cases e3 : L = (⟨#[110, 111, 111, 112]⟩ : ByteArray)
      · rw [if_pos e3]
        clear n1 n2 e1 e2
        subst e3
        skip
        skip
        skip
        go_enter Tryd.func68, Tryd.ntmps68
        go_wp2_with fail
        obtain ⟨W, hW⟩ : ∃ W : World, W = (w.alloc (.cells #[.int .i64 st, .string fr.loc, .string fr.dom, .slice A to_.length c, .string tx, .bool lg] 52)).alloc (.cells #[.int .i64 0, .string ⟨#[]⟩, .string ⟨#[]⟩, .slice none 0 0, .string ⟨#[]⟩, .bool false] 52) := ⟨_, rfl⟩
        have hK : Blk W w.heap.size [.int .i64 st, .string fr.loc, .string fr.dom, .slice A to_.length c, .string tx, .bool lg] := by rw [hW]; exact (Blk.made w _ _).alloc _
        have hZ : Blk W (w.heap.size + 1) [.int .i64 0, .string ⟨#[]⟩, .string ⟨#[]⟩, .slice none 0 0, .string ⟨#[]⟩, .bool false] := by rw [hW]; exact Blk.made_at _ _ _ (by simp)
        have hb0 : Below w.heap.size w W := by rw [hW]; exact (by repeat (first | exact Below.refl _ _ | apply below_alloc | apply pw_below_drewN | apply below_drew1 | (refine Below.setCell ?_ (by first | (simp; done) | (simp; omega) | omega) _) ))
        have hz0 : W.heap.size = w.heap.size + 2 := by rw [hW]; simp
        rw [← hW]
        replace hW := Lib.hid hW
        have HZ0 := Lib.hid hz0
        have zz1 : w.heap.size + 1 < W.heap.size := by omega
        have zz0 : w.heap.size < W.heap.size := by omega
        clear hz0
        skip
        skip
        refine (HL.out _).mono ?_
        rintro e w1 ⟨rfl, hb1⟩
        have hB1 : Below w.heap.size w w1 := hb0.trans (hb1.mono (by have := hb0.size; omega))
        have hS1 : Below W.heap.size W w1 := hb1
        go_wp2_with fail
        refine (HM.out _).mono ?_
        rintro e w2 ⟨rfl, hb2⟩
        have hB2 : Below w.heap.size w w2 := hB1.trans (hb2.mono hB1.size)
        have hS2 : Below W.heap.size W w2 := hS1.trans (hb2.mono hS1.size)
        go_wp2_with fail
        refine (HR.out _).mono ?_
        rintro e w3 ⟨rfl, hb3⟩
        have hB3 : Below w.heap.size w w3 := hB2.trans (hb3.mono hB2.size)
        have hS3 : Below W.heap.size W w3 := hS2.trans (hb3.mono hS2.size)
        go_wp2_with fail
        have Bw3 := hB3
        have Sw3 := hS3
        refine (HF.out _).mono ?_
        rintro e w4 ⟨rfl, hw4⟩
        have Bw4 : Below w.heap.size w w4 := (Bw3).trans ((hw4).mono (Bw3).size)
        have Sw4 : Below W.heap.size W w4 := (Sw3).trans ((hw4).mono (Sw3).size)
        go_wp2_with fail
        refine (HF.out _).mono ?_
        rintro e w5 ⟨rfl, hw5⟩
        have Bw5 : Below w.heap.size w w5 := (Bw4).trans ((hw5).mono (Bw4).size)
        have Sw5 : Below W.heap.size W w5 := (Sw4).trans ((hw5).mono (Sw4).size)
        go_wp2_with fail
        refine (HF.out _).mono ?_
        rintro e w6 ⟨rfl, hw6⟩
        have Bw6 : Below w.heap.size w w6 := (Bw5).trans ((hw6).mono (Bw5).size)
        have Sw6 : Below W.heap.size W w6 := (Sw5).trans ((hw6).mono (Sw5).size)
        have hK' := hK.below Sw6 zz0
        have hZ' := hZ.below Sw6 zz1
        have k0 := hK'.at 0 _ rfl
        have k1 := hK'.at 1 _ rfl
        have k2 := hK'.at 2 _ rfl
        have k3 := hK'.at 3 _ rfl
        have k4 := hK'.at 4 _ rfl
        have k5 := hK'.at 5 _ rfl
        have z0 := hZ'.at 0 _ rfl
        have z1 := hZ'.at 1 _ rfl
        have z2 := hZ'.at 2 _ rfl
        have z3 := hZ'.at 3 _ rfl
        have z4 := hZ'.at 4 _ rfl
        have z5 := hZ'.at 5 _ rfl
        have f0 := hZ'.free 0 _ rfl
        have f1 := hZ'.free 1 _ rfl
        have f2 := hZ'.free 2 _ rfl
        have f3 := hZ'.free 3 _ rfl
        have f4 := hZ'.free 4 _ rfl
        have f5 := hZ'.free 5 _ rfl
        have kl := hK'.lt
        have fl := hZ'.lt
        go_wp2_with fail
        refine bodyPost_ret (v := .tuple #[.agg #[.int .i64 st, .string fr.loc, .string fr.dom, .slice A to_.length c, .string tx, .bool lg], .int .i64 250]) (by simp [results, Tryd.results68, go_sem, *]) rfl (postCmd_same rfl hc.out (below_six Bw6 (Nat.le_succ _)))
      · rw [if_neg e3]
        have n3 := lit_no (l := [110, 111, 111, 112]) e3
        by_cases e4 : L = (⟨#[113, 117, 105, 116]⟩ : ByteArray)
        · rw [if_pos e4]
          clear n1 n2 n3 e1 e2 e3
          subst e4
          skip
          skip
          skip
          go_enter Tryd.func68, Tryd.ntmps68
          go_wp2_with fail
          obtain ⟨W, hW⟩ : ∃ W : World, W = (w.alloc (.cells #[.int .i64 st, .string fr.loc, .string fr.dom, .slice A to_.length c, .string tx, .bool lg] 52)).alloc (.cells #[.int .i64 0, .string ⟨#[]⟩, .string ⟨#[]⟩, .slice none 0 0, .string ⟨#[]⟩, .bool false] 52) := ⟨_, rfl⟩
          have hK : Blk W w.heap.size [.int .i64 st, .string fr.loc, .string fr.dom, .slice A to_.length c, .string tx, .bool lg] := by rw [hW]; exact (Blk.made w _ _).alloc _
          have hZ : Blk W (w.heap.size + 1) [.int .i64 0, .string ⟨#[]⟩, .string ⟨#[]⟩, .slice none 0 0, .string ⟨#[]⟩, .bool false] := by rw [hW]; exact Blk.made_at _ _ _ (by simp)
          have hb0 : Below w.heap.size w W := by rw [hW]; exact (by repeat (first | exact Below.refl _ _ | apply below_alloc | apply pw_below_drewN | apply below_drew1 | (refine Below.setCell ?_ (by first | (simp; done) | (simp; omega) | omega) _) ))
          have hz0 : W.heap.size = w.heap.size + 2 := by rw [hW]; simp
          rw [← hW]
          replace hW := Lib.hid hW
          have HZ0 := Lib.hid hz0
          have zz1 : w.heap.size + 1 < W.heap.size := by omega
          have zz0 : w.heap.size < W.heap.size := by omega
          clear hz0
          skip
          skip
          refine (HL.out _).mono ?_
          rintro e w1 ⟨rfl, hb1⟩
          have hB1 : Below w.heap.size w w1 := hb0.trans (hb1.mono (by have := hb0.size; omega))
          have hS1 : Below W.heap.size W w1 := hb1
          go_wp2_with fail
          refine (HM.out _).mono ?_
          rintro e w2 ⟨rfl, hb2⟩
          have hB2 : Below w.heap.size w w2 := hB1.trans (hb2.mono hB1.size)
          have hS2 : Below W.heap.size W w2 := hS1.trans (hb2.mono hS1.size)
          go_wp2_with fail
          refine (HR.out _).mono ?_
          rintro e w3 ⟨rfl, hb3⟩
          have hB3 : Below w.heap.size w w3 := hB2.trans (hb3.mono hB2.size)
          have hS3 : Below W.heap.size W w3 := hS2.trans (hb3.mono hS2.size)
          go_wp2_with fail
          have Bw3 := hB3
          have Sw3 := hS3
          refine (HF.out _).mono ?_
          rintro e w4 ⟨rfl, hw4⟩
          have Bw4 : Below w.heap.size w w4 := (Bw3).trans ((hw4).mono (Bw3).size)
          have Sw4 : Below W.heap.size W w4 := (Sw3).trans ((hw4).mono (Sw3).size)
          go_wp2_with fail
          refine (HF.out _).mono ?_
          rintro e w5 ⟨rfl, hw5⟩
          have Bw5 : Below w.heap.size w w5 := (Bw4).trans ((hw5).mono (Bw4).size)
          have Sw5 : Below W.heap.size W w5 := (Sw4).trans ((hw5).mono (Sw4).size)
          go_wp2_with fail
          refine (HF.out _).mono ?_
          rintro e w6 ⟨rfl, hw6⟩
          have Bw6 : Below w.heap.size w w6 := (Bw5).trans ((hw6).mono (Bw5).size)
          have Sw6 : Below W.heap.size W w6 := (Sw5).trans ((hw6).mono (Sw5).size)
          go_wp2_with fail
          refine (HF.out _).mono ?_
          rintro e w7 ⟨rfl, hw7⟩
          have Bw7 : Below w.heap.size w w7 := (Bw6).trans ((hw7).mono (Bw6).size)
          have Sw7 : Below W.heap.size W w7 := (Sw6).trans ((hw7).mono (Sw6).size)
          have hK' := hK.below Sw7 zz0
          have hZ' := hZ.below Sw7 zz1
          have k0 := hK'.at 0 _ rfl
          have k1 := hK'.at 1 _ rfl
          have k2 := hK'.at 2 _ rfl
          have k3 := hK'.at 3 _ rfl
          have k4 := hK'.at 4 _ rfl
          have k5 := hK'.at 5 _ rfl
          have z0 := hZ'.at 0 _ rfl
          have z1 := hZ'.at 1 _ rfl
          have z2 := hZ'.at 2 _ rfl
          have z3 := hZ'.at 3 _ rfl
          have z4 := hZ'.at 4 _ rfl
          have z5 := hZ'.at 5 _ rfl
          have f0 := hZ'.free 0 _ rfl
          have f1 := hZ'.free 1 _ rfl
          have f2 := hZ'.free 2 _ rfl
          have f3 := hZ'.free 3 _ rfl
          have f4 := hZ'.free 4 _ rfl
          have f5 := hZ'.free 5 _ rfl
          have kl := hK'.lt
          have fl := hZ'.lt
          go_wp2_with fail
          refine bodyPost_ret (v := .tuple #[.agg #[.int .i64 5, .string ⟨#[]⟩, .string ⟨#[]⟩, .slice none 0 0, .string ⟨#[]⟩, .bool false], .int .i64 221]) (by simp [results, Tryd.results68, go_sem, *]) rfl (postCmd_new (fr := ⟨⟨#[]⟩, ⟨#[]⟩⟩) rfl (below_six Bw7 (Nat.le_succ _)))
        · rw [if_neg e4]
          have n4 := lit_no (l := [113, 117, 105, 116]) e4
          clear e1 e2 e3 e4
          skip
          skip
          skip
          go_enter Tryd.func68, Tryd.ntmps68
          go_wp2_with fail
          obtain ⟨W, hW⟩ : ∃ W : World, W = (w.alloc (.cells #[.int .i64 st, .string fr.loc, .string fr.dom, .slice A to_.length c, .string tx, .bool lg] 52)).alloc (.cells #[.int .i64 0, .string ⟨#[]⟩, .string ⟨#[]⟩, .slice none 0 0, .string ⟨#[]⟩, .bool false] 52) := ⟨_, rfl⟩
          have hK : Blk W w.heap.size [.int .i64 st, .string fr.loc, .string fr.dom, .slice A to_.length c, .string tx, .bool lg] := by rw [hW]; exact (Blk.made w _ _).alloc _
          have hZ : Blk W (w.heap.size + 1) [.int .i64 0, .string ⟨#[]⟩, .string ⟨#[]⟩, .slice none 0 0, .string ⟨#[]⟩, .bool false] := by rw [hW]; exact Blk.made_at _ _ _ (by simp)
          have hb0 : Below w.heap.size w W := by rw [hW]; exact (by repeat (first | exact Below.refl _ _ | apply below_alloc | apply pw_below_drewN | apply below_drew1 | (refine Below.setCell ?_ (by first | (simp; done) | (simp; omega) | omega) _) ))
          have hz0 : W.heap.size = w.heap.size + 2 := by rw [hW]; simp
          rw [← hW]
          replace hW := Lib.hid hW
          have HZ0 := Lib.hid hz0
          have zz1 : w.heap.size + 1 < W.heap.size := by omega
          have zz0 : w.heap.size < W.heap.size := by omega
          clear hz0
          skip
          skip
          refine (HL.out _).mono ?_
          rintro e w1 ⟨rfl, hb1⟩
          have hB1 : Below w.heap.size w w1 := hb0.trans (hb1.mono (by have := hb0.size; omega))
          have hS1 : Below W.heap.size W w1 := hb1
          go_wp2_with fail
          refine (HM.out _).mono ?_
          rintro e w2 ⟨rfl, hb2⟩
          have hB2 : Below w.heap.size w w2 := hB1.trans (hb2.mono hB1.size)
          have hS2 : Below W.heap.size W w2 := hS1.trans (hb2.mono hS1.size)
          go_wp2_with fail
          refine (HR.out _).mono ?_
          rintro e w3 ⟨rfl, hb3⟩
          have hB3 : Below w.heap.size w w3 := hB2.trans (hb3.mono hB2.size)
          have hS3 : Below W.heap.size W w3 := hS2.trans (hb3.mono hS2.size)
          go_wp2_with fail
          have Bw3 := hB3
          have Sw3 := hS3
          refine (HF.out _).mono ?_
          rintro e w4 ⟨rfl, hw4⟩
          have Bw4 : Below w.heap.size w w4 := (Bw3).trans ((hw4).mono (Bw3).size)
          have Sw4 : Below W.heap.size W w4 := (Sw3).trans ((hw4).mono (Sw3).size)
          go_wp2_with fail
          refine (HF.out _).mono ?_
          rintro e w5 ⟨rfl, hw5⟩
          have Bw5 : Below w.heap.size w w5 := (Bw4).trans ((hw5).mono (Bw4).size)
          have Sw5 : Below W.heap.size W w5 := (Sw4).trans ((hw5).mono (Sw4).size)
          go_wp2_with fail
          refine (HF.out _).mono ?_
          rintro e w6 ⟨rfl, hw6⟩
          have Bw6 : Below w.heap.size w w6 := (Bw5).trans ((hw6).mono (Bw5).size)
          have Sw6 : Below W.heap.size W w6 := (Sw5).trans ((hw6).mono (Sw5).size)
          go_wp2_with fail
          refine (HF.out _).mono ?_
          rintro e w7 ⟨rfl, hw7⟩
          have Bw7 : Below w.heap.size w w7 := (Bw6).trans ((hw7).mono (Bw6).size)
          have Sw7 : Below W.heap.size W w7 := (Sw6).trans ((hw7).mono (Sw6).size)
          have hK' := hK.below Sw7 zz0
          have hZ' := hZ.below Sw7 zz1
          have k0 := hK'.at 0 _ rfl
          have k1 := hK'.at 1 _ rfl
          have k2 := hK'.at 2 _ rfl
          have k3 := hK'.at 3 _ rfl
          have k4 := hK'.at 4 _ rfl
          have k5 := hK'.at 5 _ rfl
          have z0 := hZ'.at 0 _ rfl
          have z1 := hZ'.at 1 _ rfl
          have z2 := hZ'.at 2 _ rfl
          have z3 := hZ'.at 3 _ rfl
          have z4 := hZ'.at 4 _ rfl
          have z5 := hZ'.at 5 _ rfl
          have f0 := hZ'.free 0 _ rfl
          have f1 := hZ'.free 1 _ rfl
          have f2 := hZ'.free 2 _ rfl
          have f3 := hZ'.free 3 _ rfl
          have f4 := hZ'.free 4 _ rfl
          have f5 := hZ'.free 5 _ rfl
          have kl := hK'.lt
          have fl := hZ'.lt
          go_wp2_with fail
          refine bodyPost_ret (v := .tuple #[.agg #[.int .i64 st, .string fr.loc, .string fr.dom, .slice A to_.length c, .string tx, .bool lg], .int .i64 500]) (by simp [results, Tryd.results68, go_sem, *]) rfl (postCmd_same rfl hc.out (below_six Bw7 (Nat.le_succ _)))
theorem commanded_calls (s : Ses) (A : Option Addr) (c : Nat) (A0 : Option Addr) (c0 : Nat) (kn : List ByteArray) (line : ByteArray) (w : World) (hr : Kd.C kAAddress w A s.to_.length s.to_) (hc : s.to_.length ≤ c) (h5 : s.to_.length ≤ 5) (hkn : Kd.C Kd.string w A0 kn.length kn) :
    Calls Tryd.prog 68 #[SesV A c s, .slice A0 kn.length c0, .string line] w (PostCmd w A s.to_ (cmdR s kn line)) := by
  unfold cmdR
  obtain ⟨st, fr, to_, tx, lg⟩ := s
  simp only at hr hc h5
  split
  · exact commanded_long A c A0 c0 kn line w st fr to_ tx lg hr hc (by assumption)
  · rename_i h1
    have hz : line.size ≤ 300 := by omega
    cases o1 : behV line (⟨#[76, 72, 76, 79, 32]⟩ : ByteArray) with
    | some t => exact commanded_lhlo A c A0 c0 kn line w st fr to_ tx lg hr hc hz t o1
    | none =>
      cases o2 : behV line (⟨#[77, 65, 73, 76, 32, 70, 82, 79, 77, 58]⟩ : ByteArray) with
      | some t => exact commanded_mail A c A0 c0 kn line w st fr to_ tx lg hr hc hz t o1 o2
      | none =>
        cases o3 : behV line (⟨#[82, 67, 80, 84, 32, 84, 79, 58]⟩ : ByteArray) with
        | some t => exact commanded_rcpt A c A0 c0 kn line w st fr to_ tx lg hr hc hz h5 hkn t o1 o2 o3
        | none => exact commanded_word A c A0 c0 kn line w st fr to_ tx lg hr hc hz o1 o2 o3
end Go.Proofs.YtijdghplfhfpaaaDoor.H

/- Sessions: the walk of lmtp.Check. -/
namespace Go.Proofs.YtijdghplfhfpaaaDoor.H
open Go.RowKit Go.Proofs.YtijdghplfhfpaaaDoorW.PrintWords Go.Proofs.YtijdghplfhfpaaaDoorW.PrintLast Go.Proofs.YtijdghplfhfpaaaDoor.U
set_option linter.unusedVariables false
set_option linter.unusedSimpArgs false
attribute [local go_sem high] eqAAddress eqbAAddress_self
set_option maxHeartbeats 1000000 in
set_option maxRecDepth 100000 in
theorem lmtpCheck_bad (st : Int) (fr : AAddress) (A : Option Addr) (c : Nat) (l : List AAddress) (tx : ByteArray) (lg : Bool) (w : World) (h : st < 0 ∨ 5 < st ∨ 5 < l.length ∨ 2000 < tx.size) :
    Calls Tryd.prog 63 #[.agg #[.int .i64 st, .string fr.loc, .string fr.dom, .slice A l.length c, .string tx, .bool lg]] w fun e w' => e = .returned (.int .i64 11) ∧ Below w.heap.size w w' := by
  rcases (by omega : st < 0 ∨ (¬ st < 0 ∧ 5 < st) ∨ (¬ st < 0 ∧ ¬ 5 < st ∧ (5 : Int) < l.length) ∨ (¬ st < 0 ∧ ¬ 5 < st ∧ ¬ (5 : Int) < l.length ∧ (2000 : Int) < tx.size)) with h | ⟨h1, h⟩ | ⟨h1, h2, h⟩ | ⟨h1, h2, h3, h⟩
  all_goals
    go_enter Tryd.func63, Tryd.ntmps63
    go_wp2_with fail
    go_ret
    exact ⟨(by first | rfl | (simp; done) | (simp [*]; done) | (rw [if_pos (by omega)]; first | rfl | (simp; done)) | (rw [if_neg (by omega)]; first | rfl | (simp; done)) | (simp; omega)), (by repeat (first | exact Below.refl _ _ | apply below_alloc | apply pw_below_drewN | apply below_drew1 | (refine Below.setCell ?_ (by first | (simp; done) | (simp; omega) | omega) _) ))⟩
theorem beq_empty_no {t : ByteArray} (h : ¬ t.size = 0) : (t.toList == []) = false :=
  lit_no (l := []) (fun e => h (by rw [e]; rfl))
theorem size0 {t : ByteArray} (h : t.size = 0) : t = ⟨#[]⟩ := by
  cases t with | mk d => simp [ByteArray.size] at h; simp [h]
set_option maxHeartbeats 1000000 in
set_option maxRecDepth 100000 in
theorem lmtpCheck_015 (st : Int) (hst : st = 0 ∨ st = 1 ∨ st = 5) (fr : AAddress) (A : Option Addr) (c : Nat) (l : List AAddress) (tx : ByteArray) (lg : Bool) (w : World) (hl : l.length ≤ 5) (ht : tx.size ≤ 2000) :
    Calls Tryd.prog 63 #[.agg #[.int .i64 st, .string fr.loc, .string fr.dom, .slice A l.length c, .string tx, .bool lg]] w fun e w' => e = .returned (.int .i64 (sessFault st fr l tx lg)) ∧ Below w.heap.size w w' := by
  have hi : ¬ (5 : Int) < l.length := by omega
  have hi2 : ¬ (2000 : Int) < tx.size := by omega
  by_cases hl0 : l.length = 0
  · by_cases hf : fr = emptyA
    · subst hf
      by_cases ht0 : tx.size = 0
      · obtain rfl := size0 ht0
        cases lg with
        | false =>
          rw [sess_yes (by rcases hst with rfl | rfl | rfl <;> (simp [sessMay, hl0]; exact ⟨ht, rfl⟩))]
          rcases hst with rfl | rfl | rfl
          all_goals
            unfold emptyA
            dsimp only
            go_enter Tryd.func63, Tryd.ntmps63
            go_wp2_with fail
            go_ret
            exact ⟨(by first | rfl | (simp; done) | (simp [*]; done) | (rw [if_pos (by omega)]; first | rfl | (simp; done)) | (rw [if_neg (by omega)]; first | rfl | (simp; done)) | (simp; omega)), (by repeat (first | exact Below.refl _ _ | apply below_alloc | apply pw_below_drewN | apply below_drew1 | (refine Below.setCell ?_ (by first | (simp; done) | (simp; omega) | omega) _) ))⟩
        | true =>
          rw [sess_no (by rcases hst with rfl | rfl | rfl <;> simp [sessMay])]
          rcases hst with rfl | rfl | rfl
          all_goals
            unfold emptyA
            dsimp only
            go_enter Tryd.func63, Tryd.ntmps63
            go_wp2_with fail
            go_ret
            exact ⟨(by first | rfl | (simp; done) | (simp [*]; done) | (rw [if_pos (by omega)]; first | rfl | (simp; done)) | (rw [if_neg (by omega)]; first | rfl | (simp; done)) | (simp; omega)), (by repeat (first | exact Below.refl _ _ | apply below_alloc | apply pw_below_drewN | apply below_drew1 | (refine Below.setCell ?_ (by first | (simp; done) | (simp; omega) | omega) _) ))⟩
      · have hn := beq_empty_no ht0
        rw [sess_no (by rcases hst with rfl | rfl | rfl <;> simp [sessMay, ht0])]
        rcases hst with rfl | rfl | rfl
        all_goals
          unfold emptyA
          dsimp only
          go_enter Tryd.func63, Tryd.ntmps63
          go_wp2_with fail
          go_ret
          exact ⟨(by first | rfl | (simp; done) | (simp [*]; done) | (rw [if_pos (by omega)]; first | rfl | (simp; done)) | (rw [if_neg (by omega)]; first | rfl | (simp; done)) | (simp; omega)), (by repeat (first | exact Below.refl _ _ | apply below_alloc | apply pw_below_drewN | apply below_drew1 | (refine Below.setCell ?_ (by first | (simp; done) | (simp; omega) | omega) _) ))⟩
    · have hn : eqbAAddress fr ⟨⟨#[]⟩, ⟨#[]⟩⟩ = false := by rw [Bool.eq_false_iff]; intro h; exact hf (eqbAAddress_iff.1 h)
      rw [sess_no (by rcases hst with rfl | rfl | rfl <;> simp [sessMay, hf])]
      rcases hst with rfl | rfl | rfl
      all_goals
        go_enter Tryd.func63, Tryd.ntmps63
        go_wp2_with fail
        go_ret
        exact ⟨(by first | rfl | (simp; done) | (simp [*]; done) | (rw [if_pos (by omega)]; first | rfl | (simp; done)) | (rw [if_neg (by omega)]; first | rfl | (simp; done)) | (simp; omega)), (by repeat (first | exact Below.refl _ _ | apply below_alloc | apply pw_below_drewN | apply below_drew1 | (refine Below.setCell ?_ (by first | (simp; done) | (simp; omega) | omega) _) ))⟩
  · have hi3 : (0 : Int) < l.length := by omega
    rw [sess_no (by rcases hst with rfl | rfl | rfl <;> simp [sessMay, hl0])]
    rcases hst with rfl | rfl | rfl
    all_goals
      go_enter Tryd.func63, Tryd.ntmps63
      go_wp2_with fail
      go_ret
      exact ⟨(by first | rfl | (simp; done) | (simp [*]; done) | (rw [if_pos (by omega)]; first | rfl | (simp; done)) | (rw [if_neg (by omega)]; first | rfl | (simp; done)) | (simp; omega)), (by repeat (first | exact Below.refl _ _ | apply below_alloc | apply pw_below_drewN | apply below_drew1 | (refine Below.setCell ?_ (by first | (simp; done) | (simp; omega) | omega) _) ))⟩
end Go.Proofs.YtijdghplfhfpaaaDoor.H

/- Sessions: lmtp.Check of a session with a sender. -/
namespace Go.Proofs.YtijdghplfhfpaaaDoor.H
open Go.RowKit Go.Proofs.YtijdghplfhfpaaaDoorW.PrintWords Go.Proofs.YtijdghplfhfpaaaDoorW.PrintLast Go.Proofs.YtijdghplfhfpaaaDoor.U
set_option linter.unusedVariables false
set_option linter.unusedSimpArgs false
attribute [local go_sem high] eqAAddress eqbAAddress_self
set_option maxHeartbeats 1000000 in
set_option maxRecDepth 100000 in
theorem lmtpCheck_2 (fr : AAddress) (A : Option Addr) (c : Nat) (l : List AAddress) (tx : ByteArray) (lg : Bool) (w : World) (hl : l.length ≤ 5) (ht : tx.size ≤ 2000) (m : Int) (ha : fr.loc.size ≤ 1048576) (hb : fr.dom.size ≤ 1048576) (hm : w.cell? ⟨6, 0, none⟩ = some (.int .i64 m)) (hg : 6 < w.heap.size) :
    Calls Tryd.prog 63 #[.agg #[.int .i64 2, .string fr.loc, .string fr.dom, .slice A l.length c, .string tx, .bool lg]] w fun e w' => e = .returned (.int .i64 (sessFault 2 fr l tx lg)) ∧ Below w.heap.size w w' := by
  have hi : ¬ (5 : Int) < l.length := by omega
  have hi2 : ¬ (2000 : Int) < tx.size := by omega
  have HC := fun w hm hg => check_calls fr.loc fr.dom m w ha hb hm hg
  have hq := fun h => sess_yes (st := 2) (fr := fr) (l := l) (tx := tx) (lg := lg) h
  have hn := fun h => sess_no (st := 2) (fr := fr) (l := l) (tx := tx) (lg := lg) h
  generalize sessFault 2 fr l tx lg = r at *
  unfold sessMay at hq hn
  generalize addrFault fr.loc fr.dom = f at *
  have HC := Lib.hid HC
  by_cases hf : f = 0
  · subst hf
    by_cases hl0 : l.length = 0
    · by_cases ht0 : tx.size = 0
      · obtain rfl := size0 ht0
        cases lg with
        | false =>
          obtain rfl := hq (by simp [hl0]; exact ⟨ht, rfl⟩)
          clear hq hn
          go_enter Tryd.func63, Tryd.ntmps63
          go_wp2_with fail
          refine (HC.out _ (cell_below (B := w.heap.size) (by repeat (first | exact Below.refl _ _ | apply below_alloc | apply pw_below_drewN | apply below_drew1 | (refine Below.setCell ?_ (by first | (simp; done) | (simp; omega) | omega) _) )) hm hg) (Nat.lt_of_lt_of_le hg (Below.size (show Below w.heap.size w _ from (by repeat (first | exact Below.refl _ _ | apply below_alloc | apply pw_below_drewN | apply below_drew1 | (refine Below.setCell ?_ (by first | (simp; done) | (simp; omega) | omega) _) )))))).mono ?_
          rintro e w1 ⟨rfl, hb1⟩
          obtain ⟨hc_w1, hf_w1⟩ := bcell hb1
          have s_ := hb1.size
          (try simp at s_)
          (first | (have : w.heap.size < w1.heap.size := by omega) | skip)
          have : w.heap.size ≤ w1.heap.size := by omega
          (first | (have : w.heap.size + 1 < w1.heap.size := by omega) | skip)
          have : w.heap.size + 1 ≤ w1.heap.size := by omega
          clear s_
          have : w1.cell? ⟨w.heap.size, 0, none⟩ = some (.int .i64 2) := (by rw [hc_w1 _ _ (by first | (simp; done) | (simp; omega))]; first | (simp; done) | (simp [*]; done) | assumption | (simp [go_sem, *]; done)); have : w1.frozen? ⟨w.heap.size, 0, none⟩ = false := (by rw [hf_w1 _ _ (by first | (simp; done) | (simp; omega))]; first | (simp; done) | (simp [*]; done) | assumption | (simp [go_sem, *]; done)); have : w1.cell? ⟨w.heap.size, 1, none⟩ = some (.string fr.loc) := (by rw [hc_w1 _ _ (by first | (simp; done) | (simp; omega))]; first | (simp; done) | (simp [*]; done) | assumption | (simp [go_sem, *]; done)); have : w1.frozen? ⟨w.heap.size, 1, none⟩ = false := (by rw [hf_w1 _ _ (by first | (simp; done) | (simp; omega))]; first | (simp; done) | (simp [*]; done) | assumption | (simp [go_sem, *]; done)); have : w1.cell? ⟨w.heap.size, 2, none⟩ = some (.string fr.dom) := (by rw [hc_w1 _ _ (by first | (simp; done) | (simp; omega))]; first | (simp; done) | (simp [*]; done) | assumption | (simp [go_sem, *]; done)); have : w1.frozen? ⟨w.heap.size, 2, none⟩ = false := (by rw [hf_w1 _ _ (by first | (simp; done) | (simp; omega))]; first | (simp; done) | (simp [*]; done) | assumption | (simp [go_sem, *]; done)); have : w1.cell? ⟨w.heap.size, 3, none⟩ = some (.slice A l.length c) := (by rw [hc_w1 _ _ (by first | (simp; done) | (simp; omega))]; first | (simp; done) | (simp [*]; done) | assumption | (simp [go_sem, *]; done)); have : w1.frozen? ⟨w.heap.size, 3, none⟩ = false := (by rw [hf_w1 _ _ (by first | (simp; done) | (simp; omega))]; first | (simp; done) | (simp [*]; done) | assumption | (simp [go_sem, *]; done)); have : w1.cell? ⟨w.heap.size, 4, none⟩ = some (.string ⟨#[]⟩) := (by rw [hc_w1 _ _ (by first | (simp; done) | (simp; omega))]; first | (simp; done) | (simp [*]; done) | assumption | (simp [go_sem, *]; done)); have : w1.frozen? ⟨w.heap.size, 4, none⟩ = false := (by rw [hf_w1 _ _ (by first | (simp; done) | (simp; omega))]; first | (simp; done) | (simp [*]; done) | assumption | (simp [go_sem, *]; done)); have : w1.cell? ⟨w.heap.size, 5, none⟩ = some (.bool false) := (by rw [hc_w1 _ _ (by first | (simp; done) | (simp; omega))]; first | (simp; done) | (simp [*]; done) | assumption | (simp [go_sem, *]; done)); have : w1.frozen? ⟨w.heap.size, 5, none⟩ = false := (by rw [hf_w1 _ _ (by first | (simp; done) | (simp; omega))]; first | (simp; done) | (simp [*]; done) | assumption | (simp [go_sem, *]; done))
          have : w1.cell? ⟨w.heap.size + 1, 0, none⟩ = some (.int .i64 2) := (by rw [hc_w1 _ _ (by first | (simp; done) | (simp; omega))]; first | (simp; done) | (simp [*]; done) | assumption | (simp [go_sem, *]; done)); have : w1.frozen? ⟨w.heap.size + 1, 0, none⟩ = false := (by rw [hf_w1 _ _ (by first | (simp; done) | (simp; omega))]; first | (simp; done) | (simp [*]; done) | assumption | (simp [go_sem, *]; done)); have : w1.cell? ⟨w.heap.size + 1, 1, none⟩ = some (.string ⟨#[]⟩) := (by rw [hc_w1 _ _ (by first | (simp; done) | (simp; omega))]; first | (simp; done) | (simp [*]; done) | assumption | (simp [go_sem, *]; done)); have : w1.frozen? ⟨w.heap.size + 1, 1, none⟩ = false := (by rw [hf_w1 _ _ (by first | (simp; done) | (simp; omega))]; first | (simp; done) | (simp [*]; done) | assumption | (simp [go_sem, *]; done)); have : w1.cell? ⟨w.heap.size + 1, 2, none⟩ = some (.string ⟨#[]⟩) := (by rw [hc_w1 _ _ (by first | (simp; done) | (simp; omega))]; first | (simp; done) | (simp [*]; done) | assumption | (simp [go_sem, *]; done)); have : w1.frozen? ⟨w.heap.size + 1, 2, none⟩ = false := (by rw [hf_w1 _ _ (by first | (simp; done) | (simp; omega))]; first | (simp; done) | (simp [*]; done) | assumption | (simp [go_sem, *]; done)); have : w1.cell? ⟨w.heap.size + 1, 3, none⟩ = some (.slice none 0 0) := (by rw [hc_w1 _ _ (by first | (simp; done) | (simp; omega))]; first | (simp; done) | (simp [*]; done) | assumption | (simp [go_sem, *]; done)); have : w1.frozen? ⟨w.heap.size + 1, 3, none⟩ = false := (by rw [hf_w1 _ _ (by first | (simp; done) | (simp; omega))]; first | (simp; done) | (simp [*]; done) | assumption | (simp [go_sem, *]; done)); have : w1.cell? ⟨w.heap.size + 1, 4, none⟩ = some (.string ⟨#[]⟩) := (by rw [hc_w1 _ _ (by first | (simp; done) | (simp; omega))]; first | (simp; done) | (simp [*]; done) | assumption | (simp [go_sem, *]; done)); have : w1.frozen? ⟨w.heap.size + 1, 4, none⟩ = false := (by rw [hf_w1 _ _ (by first | (simp; done) | (simp; omega))]; first | (simp; done) | (simp [*]; done) | assumption | (simp [go_sem, *]; done)); have : w1.cell? ⟨w.heap.size + 1, 5, none⟩ = some (.bool false) := (by rw [hc_w1 _ _ (by first | (simp; done) | (simp; omega))]; first | (simp; done) | (simp [*]; done) | assumption | (simp [go_sem, *]; done)); have : w1.frozen? ⟨w.heap.size + 1, 5, none⟩ = false := (by rw [hf_w1 _ _ (by first | (simp; done) | (simp; omega))]; first | (simp; done) | (simp [*]; done) | assumption | (simp [go_sem, *]; done))
          clear hc_w1 hf_w1
          go_wp2_with fail
          go_ret
          exact ⟨(by first | rfl | (simp; done) | (simp [*]; done) | (rw [if_pos (by omega)]; first | rfl | (simp; done)) | (rw [if_neg (by omega)]; first | rfl | (simp; done)) | (simp; omega)), (by (iterate 2 (refine Below.setCell ?_ (by first | (simp; done) | (simp; omega) | omega) _)); exact (by repeat (first | exact Below.refl _ _ | apply below_alloc | apply pw_below_drewN | apply below_drew1 | (refine Below.setCell ?_ (by first | (simp; done) | (simp; omega) | omega) _) | (refine below_then ?_ (by first | (simp; done) | (simp; omega) | omega) hb1))))⟩
        | true =>
          obtain rfl := hn (by simp [hl0])
          clear hq hn
          go_enter Tryd.func63, Tryd.ntmps63
          go_wp2_with fail
          refine (HC.out _ (cell_below (B := w.heap.size) (by repeat (first | exact Below.refl _ _ | apply below_alloc | apply pw_below_drewN | apply below_drew1 | (refine Below.setCell ?_ (by first | (simp; done) | (simp; omega) | omega) _) )) hm hg) (Nat.lt_of_lt_of_le hg (Below.size (show Below w.heap.size w _ from (by repeat (first | exact Below.refl _ _ | apply below_alloc | apply pw_below_drewN | apply below_drew1 | (refine Below.setCell ?_ (by first | (simp; done) | (simp; omega) | omega) _) )))))).mono ?_
          rintro e w1 ⟨rfl, hb1⟩
          obtain ⟨hc_w1, hf_w1⟩ := bcell hb1
          have s_ := hb1.size
          (try simp at s_)
          (first | (have : w.heap.size < w1.heap.size := by omega) | skip)
          have : w.heap.size ≤ w1.heap.size := by omega
          (first | (have : w.heap.size + 1 < w1.heap.size := by omega) | skip)
          have : w.heap.size + 1 ≤ w1.heap.size := by omega
          clear s_
          have : w1.cell? ⟨w.heap.size, 0, none⟩ = some (.int .i64 2) := (by rw [hc_w1 _ _ (by first | (simp; done) | (simp; omega))]; first | (simp; done) | (simp [*]; done) | assumption | (simp [go_sem, *]; done)); have : w1.frozen? ⟨w.heap.size, 0, none⟩ = false := (by rw [hf_w1 _ _ (by first | (simp; done) | (simp; omega))]; first | (simp; done) | (simp [*]; done) | assumption | (simp [go_sem, *]; done)); have : w1.cell? ⟨w.heap.size, 1, none⟩ = some (.string fr.loc) := (by rw [hc_w1 _ _ (by first | (simp; done) | (simp; omega))]; first | (simp; done) | (simp [*]; done) | assumption | (simp [go_sem, *]; done)); have : w1.frozen? ⟨w.heap.size, 1, none⟩ = false := (by rw [hf_w1 _ _ (by first | (simp; done) | (simp; omega))]; first | (simp; done) | (simp [*]; done) | assumption | (simp [go_sem, *]; done)); have : w1.cell? ⟨w.heap.size, 2, none⟩ = some (.string fr.dom) := (by rw [hc_w1 _ _ (by first | (simp; done) | (simp; omega))]; first | (simp; done) | (simp [*]; done) | assumption | (simp [go_sem, *]; done)); have : w1.frozen? ⟨w.heap.size, 2, none⟩ = false := (by rw [hf_w1 _ _ (by first | (simp; done) | (simp; omega))]; first | (simp; done) | (simp [*]; done) | assumption | (simp [go_sem, *]; done)); have : w1.cell? ⟨w.heap.size, 3, none⟩ = some (.slice A l.length c) := (by rw [hc_w1 _ _ (by first | (simp; done) | (simp; omega))]; first | (simp; done) | (simp [*]; done) | assumption | (simp [go_sem, *]; done)); have : w1.frozen? ⟨w.heap.size, 3, none⟩ = false := (by rw [hf_w1 _ _ (by first | (simp; done) | (simp; omega))]; first | (simp; done) | (simp [*]; done) | assumption | (simp [go_sem, *]; done)); have : w1.cell? ⟨w.heap.size, 4, none⟩ = some (.string ⟨#[]⟩) := (by rw [hc_w1 _ _ (by first | (simp; done) | (simp; omega))]; first | (simp; done) | (simp [*]; done) | assumption | (simp [go_sem, *]; done)); have : w1.frozen? ⟨w.heap.size, 4, none⟩ = false := (by rw [hf_w1 _ _ (by first | (simp; done) | (simp; omega))]; first | (simp; done) | (simp [*]; done) | assumption | (simp [go_sem, *]; done)); have : w1.cell? ⟨w.heap.size, 5, none⟩ = some (.bool true) := (by rw [hc_w1 _ _ (by first | (simp; done) | (simp; omega))]; first | (simp; done) | (simp [*]; done) | assumption | (simp [go_sem, *]; done)); have : w1.frozen? ⟨w.heap.size, 5, none⟩ = false := (by rw [hf_w1 _ _ (by first | (simp; done) | (simp; omega))]; first | (simp; done) | (simp [*]; done) | assumption | (simp [go_sem, *]; done))
          have : w1.cell? ⟨w.heap.size + 1, 0, none⟩ = some (.int .i64 2) := (by rw [hc_w1 _ _ (by first | (simp; done) | (simp; omega))]; first | (simp; done) | (simp [*]; done) | assumption | (simp [go_sem, *]; done)); have : w1.frozen? ⟨w.heap.size + 1, 0, none⟩ = false := (by rw [hf_w1 _ _ (by first | (simp; done) | (simp; omega))]; first | (simp; done) | (simp [*]; done) | assumption | (simp [go_sem, *]; done)); have : w1.cell? ⟨w.heap.size + 1, 1, none⟩ = some (.string ⟨#[]⟩) := (by rw [hc_w1 _ _ (by first | (simp; done) | (simp; omega))]; first | (simp; done) | (simp [*]; done) | assumption | (simp [go_sem, *]; done)); have : w1.frozen? ⟨w.heap.size + 1, 1, none⟩ = false := (by rw [hf_w1 _ _ (by first | (simp; done) | (simp; omega))]; first | (simp; done) | (simp [*]; done) | assumption | (simp [go_sem, *]; done)); have : w1.cell? ⟨w.heap.size + 1, 2, none⟩ = some (.string ⟨#[]⟩) := (by rw [hc_w1 _ _ (by first | (simp; done) | (simp; omega))]; first | (simp; done) | (simp [*]; done) | assumption | (simp [go_sem, *]; done)); have : w1.frozen? ⟨w.heap.size + 1, 2, none⟩ = false := (by rw [hf_w1 _ _ (by first | (simp; done) | (simp; omega))]; first | (simp; done) | (simp [*]; done) | assumption | (simp [go_sem, *]; done)); have : w1.cell? ⟨w.heap.size + 1, 3, none⟩ = some (.slice none 0 0) := (by rw [hc_w1 _ _ (by first | (simp; done) | (simp; omega))]; first | (simp; done) | (simp [*]; done) | assumption | (simp [go_sem, *]; done)); have : w1.frozen? ⟨w.heap.size + 1, 3, none⟩ = false := (by rw [hf_w1 _ _ (by first | (simp; done) | (simp; omega))]; first | (simp; done) | (simp [*]; done) | assumption | (simp [go_sem, *]; done)); have : w1.cell? ⟨w.heap.size + 1, 4, none⟩ = some (.string ⟨#[]⟩) := (by rw [hc_w1 _ _ (by first | (simp; done) | (simp; omega))]; first | (simp; done) | (simp [*]; done) | assumption | (simp [go_sem, *]; done)); have : w1.frozen? ⟨w.heap.size + 1, 4, none⟩ = false := (by rw [hf_w1 _ _ (by first | (simp; done) | (simp; omega))]; first | (simp; done) | (simp [*]; done) | assumption | (simp [go_sem, *]; done)); have : w1.cell? ⟨w.heap.size + 1, 5, none⟩ = some (.bool false) := (by rw [hc_w1 _ _ (by first | (simp; done) | (simp; omega))]; first | (simp; done) | (simp [*]; done) | assumption | (simp [go_sem, *]; done)); have : w1.frozen? ⟨w.heap.size + 1, 5, none⟩ = false := (by rw [hf_w1 _ _ (by first | (simp; done) | (simp; omega))]; first | (simp; done) | (simp [*]; done) | assumption | (simp [go_sem, *]; done))
          clear hc_w1 hf_w1
          go_wp2_with fail
          go_ret
          exact ⟨(by first | rfl | (simp; done) | (simp [*]; done) | (rw [if_pos (by omega)]; first | rfl | (simp; done)) | (rw [if_neg (by omega)]; first | rfl | (simp; done)) | (simp; omega)), (by (iterate 2 (refine Below.setCell ?_ (by first | (simp; done) | (simp; omega) | omega) _)); exact (by repeat (first | exact Below.refl _ _ | apply below_alloc | apply pw_below_drewN | apply below_drew1 | (refine Below.setCell ?_ (by first | (simp; done) | (simp; omega) | omega) _) | (refine below_then ?_ (by first | (simp; done) | (simp; omega) | omega) hb1))))⟩
      · obtain rfl := hn (by simp [hl0, ht0])
        have hx := beq_empty_no ht0
        clear hq hn
        go_enter Tryd.func63, Tryd.ntmps63
        go_wp2_with fail
        refine (HC.out _ (cell_below (B := w.heap.size) (by repeat (first | exact Below.refl _ _ | apply below_alloc | apply pw_below_drewN | apply below_drew1 | (refine Below.setCell ?_ (by first | (simp; done) | (simp; omega) | omega) _) )) hm hg) (Nat.lt_of_lt_of_le hg (Below.size (show Below w.heap.size w _ from (by repeat (first | exact Below.refl _ _ | apply below_alloc | apply pw_below_drewN | apply below_drew1 | (refine Below.setCell ?_ (by first | (simp; done) | (simp; omega) | omega) _) )))))).mono ?_
        rintro e w1 ⟨rfl, hb1⟩
        obtain ⟨hc_w1, hf_w1⟩ := bcell hb1
        have s_ := hb1.size
        (try simp at s_)
        (first | (have : w.heap.size < w1.heap.size := by omega) | skip)
        have : w.heap.size ≤ w1.heap.size := by omega
        (first | (have : w.heap.size + 1 < w1.heap.size := by omega) | skip)
        have : w.heap.size + 1 ≤ w1.heap.size := by omega
        clear s_
        have : w1.cell? ⟨w.heap.size, 0, none⟩ = some (.int .i64 2) := (by rw [hc_w1 _ _ (by first | (simp; done) | (simp; omega))]; first | (simp; done) | (simp [*]; done) | assumption | (simp [go_sem, *]; done)); have : w1.frozen? ⟨w.heap.size, 0, none⟩ = false := (by rw [hf_w1 _ _ (by first | (simp; done) | (simp; omega))]; first | (simp; done) | (simp [*]; done) | assumption | (simp [go_sem, *]; done)); have : w1.cell? ⟨w.heap.size, 1, none⟩ = some (.string fr.loc) := (by rw [hc_w1 _ _ (by first | (simp; done) | (simp; omega))]; first | (simp; done) | (simp [*]; done) | assumption | (simp [go_sem, *]; done)); have : w1.frozen? ⟨w.heap.size, 1, none⟩ = false := (by rw [hf_w1 _ _ (by first | (simp; done) | (simp; omega))]; first | (simp; done) | (simp [*]; done) | assumption | (simp [go_sem, *]; done)); have : w1.cell? ⟨w.heap.size, 2, none⟩ = some (.string fr.dom) := (by rw [hc_w1 _ _ (by first | (simp; done) | (simp; omega))]; first | (simp; done) | (simp [*]; done) | assumption | (simp [go_sem, *]; done)); have : w1.frozen? ⟨w.heap.size, 2, none⟩ = false := (by rw [hf_w1 _ _ (by first | (simp; done) | (simp; omega))]; first | (simp; done) | (simp [*]; done) | assumption | (simp [go_sem, *]; done)); have : w1.cell? ⟨w.heap.size, 3, none⟩ = some (.slice A l.length c) := (by rw [hc_w1 _ _ (by first | (simp; done) | (simp; omega))]; first | (simp; done) | (simp [*]; done) | assumption | (simp [go_sem, *]; done)); have : w1.frozen? ⟨w.heap.size, 3, none⟩ = false := (by rw [hf_w1 _ _ (by first | (simp; done) | (simp; omega))]; first | (simp; done) | (simp [*]; done) | assumption | (simp [go_sem, *]; done)); have : w1.cell? ⟨w.heap.size, 4, none⟩ = some (.string tx) := (by rw [hc_w1 _ _ (by first | (simp; done) | (simp; omega))]; first | (simp; done) | (simp [*]; done) | assumption | (simp [go_sem, *]; done)); have : w1.frozen? ⟨w.heap.size, 4, none⟩ = false := (by rw [hf_w1 _ _ (by first | (simp; done) | (simp; omega))]; first | (simp; done) | (simp [*]; done) | assumption | (simp [go_sem, *]; done)); have : w1.cell? ⟨w.heap.size, 5, none⟩ = some (.bool lg) := (by rw [hc_w1 _ _ (by first | (simp; done) | (simp; omega))]; first | (simp; done) | (simp [*]; done) | assumption | (simp [go_sem, *]; done)); have : w1.frozen? ⟨w.heap.size, 5, none⟩ = false := (by rw [hf_w1 _ _ (by first | (simp; done) | (simp; omega))]; first | (simp; done) | (simp [*]; done) | assumption | (simp [go_sem, *]; done))
        have : w1.cell? ⟨w.heap.size + 1, 0, none⟩ = some (.int .i64 2) := (by rw [hc_w1 _ _ (by first | (simp; done) | (simp; omega))]; first | (simp; done) | (simp [*]; done) | assumption | (simp [go_sem, *]; done)); have : w1.frozen? ⟨w.heap.size + 1, 0, none⟩ = false := (by rw [hf_w1 _ _ (by first | (simp; done) | (simp; omega))]; first | (simp; done) | (simp [*]; done) | assumption | (simp [go_sem, *]; done)); have : w1.cell? ⟨w.heap.size + 1, 1, none⟩ = some (.string ⟨#[]⟩) := (by rw [hc_w1 _ _ (by first | (simp; done) | (simp; omega))]; first | (simp; done) | (simp [*]; done) | assumption | (simp [go_sem, *]; done)); have : w1.frozen? ⟨w.heap.size + 1, 1, none⟩ = false := (by rw [hf_w1 _ _ (by first | (simp; done) | (simp; omega))]; first | (simp; done) | (simp [*]; done) | assumption | (simp [go_sem, *]; done)); have : w1.cell? ⟨w.heap.size + 1, 2, none⟩ = some (.string ⟨#[]⟩) := (by rw [hc_w1 _ _ (by first | (simp; done) | (simp; omega))]; first | (simp; done) | (simp [*]; done) | assumption | (simp [go_sem, *]; done)); have : w1.frozen? ⟨w.heap.size + 1, 2, none⟩ = false := (by rw [hf_w1 _ _ (by first | (simp; done) | (simp; omega))]; first | (simp; done) | (simp [*]; done) | assumption | (simp [go_sem, *]; done)); have : w1.cell? ⟨w.heap.size + 1, 3, none⟩ = some (.slice none 0 0) := (by rw [hc_w1 _ _ (by first | (simp; done) | (simp; omega))]; first | (simp; done) | (simp [*]; done) | assumption | (simp [go_sem, *]; done)); have : w1.frozen? ⟨w.heap.size + 1, 3, none⟩ = false := (by rw [hf_w1 _ _ (by first | (simp; done) | (simp; omega))]; first | (simp; done) | (simp [*]; done) | assumption | (simp [go_sem, *]; done)); have : w1.cell? ⟨w.heap.size + 1, 4, none⟩ = some (.string ⟨#[]⟩) := (by rw [hc_w1 _ _ (by first | (simp; done) | (simp; omega))]; first | (simp; done) | (simp [*]; done) | assumption | (simp [go_sem, *]; done)); have : w1.frozen? ⟨w.heap.size + 1, 4, none⟩ = false := (by rw [hf_w1 _ _ (by first | (simp; done) | (simp; omega))]; first | (simp; done) | (simp [*]; done) | assumption | (simp [go_sem, *]; done)); have : w1.cell? ⟨w.heap.size + 1, 5, none⟩ = some (.bool false) := (by rw [hc_w1 _ _ (by first | (simp; done) | (simp; omega))]; first | (simp; done) | (simp [*]; done) | assumption | (simp [go_sem, *]; done)); have : w1.frozen? ⟨w.heap.size + 1, 5, none⟩ = false := (by rw [hf_w1 _ _ (by first | (simp; done) | (simp; omega))]; first | (simp; done) | (simp [*]; done) | assumption | (simp [go_sem, *]; done))
        clear hc_w1 hf_w1
        go_wp2_with fail
        go_ret
        exact ⟨(by first | rfl | (simp; done) | (simp [*]; done) | (rw [if_pos (by omega)]; first | rfl | (simp; done)) | (rw [if_neg (by omega)]; first | rfl | (simp; done)) | (simp; omega)), (by (iterate 2 (refine Below.setCell ?_ (by first | (simp; done) | (simp; omega) | omega) _)); exact (by repeat (first | exact Below.refl _ _ | apply below_alloc | apply pw_below_drewN | apply below_drew1 | (refine Below.setCell ?_ (by first | (simp; done) | (simp; omega) | omega) _) | (refine below_then ?_ (by first | (simp; done) | (simp; omega) | omega) hb1))))⟩
    · obtain rfl := hn (by simp [hl0])
      have hi3 : (0 : Int) < l.length := by omega
      clear hq hn
      go_enter Tryd.func63, Tryd.ntmps63
      go_wp2_with fail
      refine (HC.out _ (cell_below (B := w.heap.size) (by repeat (first | exact Below.refl _ _ | apply below_alloc | apply pw_below_drewN | apply below_drew1 | (refine Below.setCell ?_ (by first | (simp; done) | (simp; omega) | omega) _) )) hm hg) (Nat.lt_of_lt_of_le hg (Below.size (show Below w.heap.size w _ from (by repeat (first | exact Below.refl _ _ | apply below_alloc | apply pw_below_drewN | apply below_drew1 | (refine Below.setCell ?_ (by first | (simp; done) | (simp; omega) | omega) _) )))))).mono ?_
      rintro e w1 ⟨rfl, hb1⟩
      obtain ⟨hc_w1, hf_w1⟩ := bcell hb1
      have s_ := hb1.size
      (try simp at s_)
      (first | (have : w.heap.size < w1.heap.size := by omega) | skip)
      have : w.heap.size ≤ w1.heap.size := by omega
      (first | (have : w.heap.size + 1 < w1.heap.size := by omega) | skip)
      have : w.heap.size + 1 ≤ w1.heap.size := by omega
      clear s_
      have : w1.cell? ⟨w.heap.size, 0, none⟩ = some (.int .i64 2) := (by rw [hc_w1 _ _ (by first | (simp; done) | (simp; omega))]; first | (simp; done) | (simp [*]; done) | assumption | (simp [go_sem, *]; done)); have : w1.frozen? ⟨w.heap.size, 0, none⟩ = false := (by rw [hf_w1 _ _ (by first | (simp; done) | (simp; omega))]; first | (simp; done) | (simp [*]; done) | assumption | (simp [go_sem, *]; done)); have : w1.cell? ⟨w.heap.size, 1, none⟩ = some (.string fr.loc) := (by rw [hc_w1 _ _ (by first | (simp; done) | (simp; omega))]; first | (simp; done) | (simp [*]; done) | assumption | (simp [go_sem, *]; done)); have : w1.frozen? ⟨w.heap.size, 1, none⟩ = false := (by rw [hf_w1 _ _ (by first | (simp; done) | (simp; omega))]; first | (simp; done) | (simp [*]; done) | assumption | (simp [go_sem, *]; done)); have : w1.cell? ⟨w.heap.size, 2, none⟩ = some (.string fr.dom) := (by rw [hc_w1 _ _ (by first | (simp; done) | (simp; omega))]; first | (simp; done) | (simp [*]; done) | assumption | (simp [go_sem, *]; done)); have : w1.frozen? ⟨w.heap.size, 2, none⟩ = false := (by rw [hf_w1 _ _ (by first | (simp; done) | (simp; omega))]; first | (simp; done) | (simp [*]; done) | assumption | (simp [go_sem, *]; done)); have : w1.cell? ⟨w.heap.size, 3, none⟩ = some (.slice A l.length c) := (by rw [hc_w1 _ _ (by first | (simp; done) | (simp; omega))]; first | (simp; done) | (simp [*]; done) | assumption | (simp [go_sem, *]; done)); have : w1.frozen? ⟨w.heap.size, 3, none⟩ = false := (by rw [hf_w1 _ _ (by first | (simp; done) | (simp; omega))]; first | (simp; done) | (simp [*]; done) | assumption | (simp [go_sem, *]; done)); have : w1.cell? ⟨w.heap.size, 4, none⟩ = some (.string tx) := (by rw [hc_w1 _ _ (by first | (simp; done) | (simp; omega))]; first | (simp; done) | (simp [*]; done) | assumption | (simp [go_sem, *]; done)); have : w1.frozen? ⟨w.heap.size, 4, none⟩ = false := (by rw [hf_w1 _ _ (by first | (simp; done) | (simp; omega))]; first | (simp; done) | (simp [*]; done) | assumption | (simp [go_sem, *]; done)); have : w1.cell? ⟨w.heap.size, 5, none⟩ = some (.bool lg) := (by rw [hc_w1 _ _ (by first | (simp; done) | (simp; omega))]; first | (simp; done) | (simp [*]; done) | assumption | (simp [go_sem, *]; done)); have : w1.frozen? ⟨w.heap.size, 5, none⟩ = false := (by rw [hf_w1 _ _ (by first | (simp; done) | (simp; omega))]; first | (simp; done) | (simp [*]; done) | assumption | (simp [go_sem, *]; done))
      have : w1.cell? ⟨w.heap.size + 1, 0, none⟩ = some (.int .i64 2) := (by rw [hc_w1 _ _ (by first | (simp; done) | (simp; omega))]; first | (simp; done) | (simp [*]; done) | assumption | (simp [go_sem, *]; done)); have : w1.frozen? ⟨w.heap.size + 1, 0, none⟩ = false := (by rw [hf_w1 _ _ (by first | (simp; done) | (simp; omega))]; first | (simp; done) | (simp [*]; done) | assumption | (simp [go_sem, *]; done)); have : w1.cell? ⟨w.heap.size + 1, 1, none⟩ = some (.string ⟨#[]⟩) := (by rw [hc_w1 _ _ (by first | (simp; done) | (simp; omega))]; first | (simp; done) | (simp [*]; done) | assumption | (simp [go_sem, *]; done)); have : w1.frozen? ⟨w.heap.size + 1, 1, none⟩ = false := (by rw [hf_w1 _ _ (by first | (simp; done) | (simp; omega))]; first | (simp; done) | (simp [*]; done) | assumption | (simp [go_sem, *]; done)); have : w1.cell? ⟨w.heap.size + 1, 2, none⟩ = some (.string ⟨#[]⟩) := (by rw [hc_w1 _ _ (by first | (simp; done) | (simp; omega))]; first | (simp; done) | (simp [*]; done) | assumption | (simp [go_sem, *]; done)); have : w1.frozen? ⟨w.heap.size + 1, 2, none⟩ = false := (by rw [hf_w1 _ _ (by first | (simp; done) | (simp; omega))]; first | (simp; done) | (simp [*]; done) | assumption | (simp [go_sem, *]; done)); have : w1.cell? ⟨w.heap.size + 1, 3, none⟩ = some (.slice none 0 0) := (by rw [hc_w1 _ _ (by first | (simp; done) | (simp; omega))]; first | (simp; done) | (simp [*]; done) | assumption | (simp [go_sem, *]; done)); have : w1.frozen? ⟨w.heap.size + 1, 3, none⟩ = false := (by rw [hf_w1 _ _ (by first | (simp; done) | (simp; omega))]; first | (simp; done) | (simp [*]; done) | assumption | (simp [go_sem, *]; done)); have : w1.cell? ⟨w.heap.size + 1, 4, none⟩ = some (.string ⟨#[]⟩) := (by rw [hc_w1 _ _ (by first | (simp; done) | (simp; omega))]; first | (simp; done) | (simp [*]; done) | assumption | (simp [go_sem, *]; done)); have : w1.frozen? ⟨w.heap.size + 1, 4, none⟩ = false := (by rw [hf_w1 _ _ (by first | (simp; done) | (simp; omega))]; first | (simp; done) | (simp [*]; done) | assumption | (simp [go_sem, *]; done)); have : w1.cell? ⟨w.heap.size + 1, 5, none⟩ = some (.bool false) := (by rw [hc_w1 _ _ (by first | (simp; done) | (simp; omega))]; first | (simp; done) | (simp [*]; done) | assumption | (simp [go_sem, *]; done)); have : w1.frozen? ⟨w.heap.size + 1, 5, none⟩ = false := (by rw [hf_w1 _ _ (by first | (simp; done) | (simp; omega))]; first | (simp; done) | (simp [*]; done) | assumption | (simp [go_sem, *]; done))
      clear hc_w1 hf_w1
      go_wp2_with fail
      go_ret
      exact ⟨(by first | rfl | (simp; done) | (simp [*]; done) | (rw [if_pos (by omega)]; first | rfl | (simp; done)) | (rw [if_neg (by omega)]; first | rfl | (simp; done)) | (simp; omega)), (by (iterate 2 (refine Below.setCell ?_ (by first | (simp; done) | (simp; omega) | omega) _)); exact (by repeat (first | exact Below.refl _ _ | apply below_alloc | apply pw_below_drewN | apply below_drew1 | (refine Below.setCell ?_ (by first | (simp; done) | (simp; omega) | omega) _) | (refine below_then ?_ (by first | (simp; done) | (simp; omega) | omega) hb1))))⟩
  · obtain rfl := hn (by simp [hf])
    clear hq hn
    go_enter Tryd.func63, Tryd.ntmps63
    go_wp2_with fail
    refine (HC.out _ (cell_below (B := w.heap.size) (by repeat (first | exact Below.refl _ _ | apply below_alloc | apply pw_below_drewN | apply below_drew1 | (refine Below.setCell ?_ (by first | (simp; done) | (simp; omega) | omega) _) )) hm hg) (Nat.lt_of_lt_of_le hg (Below.size (show Below w.heap.size w _ from (by repeat (first | exact Below.refl _ _ | apply below_alloc | apply pw_below_drewN | apply below_drew1 | (refine Below.setCell ?_ (by first | (simp; done) | (simp; omega) | omega) _) )))))).mono ?_
    rintro e w1 ⟨rfl, hb1⟩
    go_wp2_with fail
    go_ret
    exact ⟨(by first | rfl | (simp; done) | (simp [*]; done) | (rw [if_pos (by omega)]; first | rfl | (simp; done)) | (rw [if_neg (by omega)]; first | rfl | (simp; done)) | (simp; omega)), (by repeat (first | exact Below.refl _ _ | apply below_alloc | apply pw_below_drewN | apply below_drew1 | (refine Below.setCell ?_ (by first | (simp; done) | (simp; omega) | omega) _) | (refine below_then ?_ (by first | (simp; done) | (simp; omega) | omega) hb1)))⟩
end Go.Proofs.YtijdghplfhfpaaaDoor.H
