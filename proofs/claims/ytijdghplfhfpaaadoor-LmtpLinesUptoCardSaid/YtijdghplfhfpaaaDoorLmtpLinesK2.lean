/- The claim LmtpLinesUptoCardSaid, part 2 of 5. -/
import Derived.Test.YtijdghplfhfpaaaDoorLmtpLinesK1
import Derived.Deep.QuietTactic
import Derived.BigQuiet
import Derived.Defers
import Derived.Recover
import Derived.Test.YtijdghplfhfpaaaDoorShelf
/- glob.Match at the kind Is. -/
namespace Go.Proofs.YtijdghplfhfpaaaDoor.H
open Go.RowKit Go.Proofs.YtijdghplfhfpaaaDoorW.PrintWords Go.Proofs.YtijdghplfhfpaaaDoorW.PrintLast Go.Proofs.YtijdghplfhfpaaaDoor.U
set_option linter.unusedVariables false
set_option linter.unusedSimpArgs false
def sameLow (a b : ByteArray) : Bool := (lowS a).toList == (lowS b).toList
/-- What glob.Match answers at the kind Is. -/
def isV (s p : ByteArray) : Bool := if s.size ≤ 2000 ∧ p.size ≤ 100 then sameLow s p else false
def isE (s p : ByteArray) : Int := if s.size ≤ 2000 ∧ p.size ≤ 100 then 0 else 1
set_option maxHeartbeats 1000000 in
set_option maxRecDepth 100000 in
theorem matchIs_calls (s p : ByteArray) (w : World) (hs : s.size ≤ 1048576) (hp : p.size ≤ 1048576) : Calls Tryd.prog 154 #[.int .i64 1, .string s, .string p] w fun e w' => e = .returned (.tuple #[.bool (isV s p), .int .i64 (isE s p)]) ∧ Below w.heap.size w w' := by
  unfold isV isE
  have HF := Lib.hid (fun (s : ByteArray) w hs => fold_calls s w hs)
  rcases (by omega : 2000 < s.size ∨ (s.size ≤ 2000 ∧ 100 < p.size) ∨ (s.size ≤ 2000 ∧ p.size ≤ 100)) with h | ⟨h1, h⟩ | ⟨h1, h2⟩
  · rw [if_neg (by omega), if_neg (by omega)]
    have i1 : (2000 : Int) < s.size := by omega
    go_enter Tryd.func154, Tryd.ntmps154
    go_wp2_with fail
    refine bodyPost_ret (v := .tuple #[.bool false, .int .i64 1]) (by simp [results, Tryd.results154, go_sem, *]) rfl ⟨rfl, (by repeat (first | exact Below.refl _ _ | apply below_alloc | apply pw_below_drewN | apply below_drew1 | (refine Below.setCell ?_ (by first | (simp; done) | (simp; omega) | omega) _) ))⟩
  · rw [if_neg (by omega), if_neg (by omega)]
    have i1 : ¬ (2000 : Int) < s.size := by omega
    have i2 : (100 : Int) < p.size := by omega
    go_enter Tryd.func154, Tryd.ntmps154
    go_wp2_with fail
    refine bodyPost_ret (v := .tuple #[.bool false, .int .i64 1]) (by simp [results, Tryd.results154, go_sem, *]) rfl ⟨rfl, (by repeat (first | exact Below.refl _ _ | apply below_alloc | apply pw_below_drewN | apply below_drew1 | (refine Below.setCell ?_ (by first | (simp; done) | (simp; omega) | omega) _) ))⟩
  · rw [if_pos ⟨h1, h2⟩, if_pos ⟨h1, h2⟩]
    have i1 : ¬ (2000 : Int) < s.size := by omega
    have i2 : ¬ (100 : Int) < p.size := by omega
    unfold sameLow
    have H1 := HF.out s
    have H2 := HF.out p
    generalize lowS s = a at *
    generalize lowS p = b at *
    have H1 := Lib.hid H1
    have H2 := Lib.hid H2
    go_enter Tryd.func154, Tryd.ntmps154
    go_wp2_with fail
    refine (H1.out _ (by omega)).mono ?_
    rintro e w1 ⟨rfl, hb1⟩
    have hz1 := hb1.size
    go_wp2_with fail
    refine (H2.out _ (by omega)).mono ?_
    rintro e w2 ⟨rfl, hb2⟩
    go_wp2_with fail
    refine bodyPost_ret (v := .tuple #[.bool (a.toList == b.toList), .int .i64 0]) (by simp [results, Tryd.results154, go_sem, *]) rfl ⟨rfl, (by repeat (first | exact Below.refl _ _ | apply below_alloc | apply pw_below_drewN | apply below_drew1 | (refine Below.setCell ?_ (by first | (simp; done) | (simp; omega) | omega) _) | (refine below_then ?_ (by first | (simp; done) | (simp; omega) | omega) hb2) | (refine below_then ?_ (by first | (simp; done) | (simp; omega) | omega) hb1)))⟩
end Go.Proofs.YtijdghplfhfpaaaDoor.H

/- Lines: what stands behind a word. -/
namespace Go.Proofs.YtijdghplfhfpaaaDoor.H
open Go.RowKit Go.Proofs.YtijdghplfhfpaaaDoorW.PrintWords Go.Proofs.YtijdghplfhfpaaaDoorW.PrintLast Go.Proofs.YtijdghplfhfpaaaDoor.U
set_option linter.unusedVariables false
set_option linter.unusedSimpArgs false
/-- What stands behind a word, if a line begins with it. -/
def behV (line word : ByteArray) : Option ByteArray := if word.size ≤ line.size ∧ sameLow (line.extract 0 word.size) word = true then some (line.extract word.size line.size) else none
def behT (o : Option ByteArray) : ByteArray := o.getD ⟨#[]⟩
set_option maxHeartbeats 1000000 in
set_option maxRecDepth 100000 in
theorem rest_calls (line word : ByteArray) (w : World) (hl : line.size ≤ 1048576) (hw : word.size ≤ 100) :
    Calls Tryd.prog 99 #[.string line, .string word] w fun e w' => e = .returned (.tuple #[.string (behT (behV line word)), .bool (behV line word).isSome]) ∧ Below w.heap.size w w' := by
  by_cases h1 : word.size ≤ line.size
  · have hx : (line.extract 0 word.size).size = word.size := by simp; omega
    have HM := matchIs_calls (line.extract 0 word.size) word
    have hv : isV (line.extract 0 word.size) word = sameLow (line.extract 0 word.size) word := by unfold isV; rw [if_pos ⟨by omega, hw⟩]
    rw [hv] at HM
    unfold behV
    clear hv
    cases hq : sameLow (line.extract 0 word.size) word with
    | true =>
      rw [hq] at HM
      rw [if_pos ⟨h1, rfl⟩]
      replace HM := Lib.hid (fun w => HM w (by omega) (by omega))
      clear hx hq
      have i1 : ¬ (line.size : Int) < word.size := by omega
      go_enter Tryd.func99, Tryd.ntmps99
      go_wp2_with fail
      refine (HM.out _).mono ?_
      rintro e w1 ⟨rfl, hb1⟩
      go_wp2_with fail
      refine bodyPost_ret (v := .tuple #[.string (line.extract word.size line.size), .bool true]) (by simp [results, Tryd.results99, go_sem, *]) rfl ⟨rfl, (by repeat (first | exact Below.refl _ _ | apply below_alloc | apply pw_below_drewN | apply below_drew1 | (refine Below.setCell ?_ (by first | (simp; done) | (simp; omega) | omega) _) | (refine below_then ?_ (by first | (simp; done) | (simp; omega) | omega) hb1)))⟩
    | false =>
      rw [hq] at HM
      rw [if_neg (by simp)]
      replace HM := Lib.hid (fun w => HM w (by omega) (by omega))
      clear hx hq
      have i1 : ¬ (line.size : Int) < word.size := by omega
      go_enter Tryd.func99, Tryd.ntmps99
      go_wp2_with fail
      refine (HM.out _).mono ?_
      rintro e w1 ⟨rfl, hb1⟩
      go_wp2_with fail
      refine bodyPost_ret (v := .tuple #[.string ⟨#[]⟩, .bool false]) (by simp [results, Tryd.results99, go_sem, *]) rfl ⟨rfl, (by repeat (first | exact Below.refl _ _ | apply below_alloc | apply pw_below_drewN | apply below_drew1 | (refine Below.setCell ?_ (by first | (simp; done) | (simp; omega) | omega) _) | (refine below_then ?_ (by first | (simp; done) | (simp; omega) | omega) hb1)))⟩
  · rw [behV, if_neg (by omega)]
    have i1 : (line.size : Int) < word.size := by omega
    go_enter Tryd.func99, Tryd.ntmps99
    go_wp2_with fail
    refine bodyPost_ret (v := .tuple #[.string ⟨#[]⟩, .bool false]) (by simp [results, Tryd.results99, go_sem, *]) rfl ⟨rfl, (by repeat (first | exact Below.refl _ _ | apply below_alloc | apply pw_below_drewN | apply below_drew1 | (refine Below.setCell ?_ (by first | (simp; done) | (simp; omega) | omega) _) ))⟩
set_option maxHeartbeats 1000000 in
set_option maxRecDepth 100000 in
theorem behind_calls (line word : ByteArray) (w : World) (hl : line.size ≤ 1048576) (hw : word.size ≤ 100) :
    Calls Tryd.prog 106 #[.string line, .string word] w fun e w' => e = .returned (.tuple #[.bool (behV line word).isSome, .string (behT (behV line word))]) ∧ Below w.heap.size w w' := by
  by_cases h1 : word.size ≤ line.size
  · have hx : (line.extract 0 word.size).size = word.size := by simp; omega
    have H1 := lower_calls (line.extract 0 word.size)
    have H2 := lower_calls word
    unfold behV sameLow
    generalize lowS (line.extract 0 word.size) = a at *
    generalize lowS word = b at *
    replace H1 := Lib.hid (fun w => H1 w (by omega))
    replace H2 := Lib.hid (fun w => H2 w (by omega))
    clear hx
    have i1 : ¬ (line.size : Int) < word.size := by omega
    cases hq : a.toList == b.toList with
    | true =>
      rw [if_pos ⟨h1, rfl⟩]
      go_enter Tryd.func106, Tryd.ntmps106
      go_wp2_with fail
      refine (H1.out _).mono ?_
      rintro e w1 ⟨rfl, hb1⟩
      have hz1 := hb1.size
      go_wp2_with fail
      refine (H2.out _).mono ?_
      rintro e w2 ⟨rfl, hb2⟩
      go_wp2_with fail
      go_quiet (fail)
      go_wp2_with fail
      refine bodyPost_ret (v := .tuple #[.bool true, .string (line.extract word.size line.size)]) (by simp [results, Tryd.results106, go_sem, *]) rfl ⟨rfl, (by repeat (first | exact Below.refl _ _ | apply below_alloc | apply pw_below_drewN | apply below_drew1 | (refine Below.setCell ?_ (by first | (simp; done) | (simp; omega) | omega) _) | (refine below_then ?_ (by first | (simp; done) | (simp; omega) | omega) hb2) | (refine below_then ?_ (by first | (simp; done) | (simp; omega) | omega) hb1)))⟩
    | false =>
      rw [if_neg (by simp)]
      go_enter Tryd.func106, Tryd.ntmps106
      go_wp2_with fail
      refine (H1.out _).mono ?_
      rintro e w1 ⟨rfl, hb1⟩
      have hz1 := hb1.size
      go_wp2_with fail
      refine (H2.out _).mono ?_
      rintro e w2 ⟨rfl, hb2⟩
      go_wp2_with fail
      refine bodyPost_ret (v := .tuple #[.bool false, .string ⟨#[]⟩]) (by simp [results, Tryd.results106, go_sem, *]) rfl ⟨rfl, (by repeat (first | exact Below.refl _ _ | apply below_alloc | apply pw_below_drewN | apply below_drew1 | (refine Below.setCell ?_ (by first | (simp; done) | (simp; omega) | omega) _) | (refine below_then ?_ (by first | (simp; done) | (simp; omega) | omega) hb2) | (refine below_then ?_ (by first | (simp; done) | (simp; omega) | omega) hb1)))⟩
  · rw [behV, if_neg (by omega)]
    have i1 : (line.size : Int) < word.size := by omega
    go_enter Tryd.func106, Tryd.ntmps106
    go_wp2_with fail
    refine bodyPost_ret (v := .tuple #[.bool false, .string ⟨#[]⟩]) (by simp [results, Tryd.results106, go_sem, *]) rfl ⟨rfl, (by repeat (first | exact Below.refl _ _ | apply below_alloc | apply pw_below_drewN | apply below_drew1 | (refine Below.setCell ?_ (by first | (simp; done) | (simp; omega) | omega) _) ))⟩
end Go.Proofs.YtijdghplfhfpaaaDoor.H

/- Lists of addresses: the reader's address: the walk. -/
namespace Go.Proofs.YtijdghplfhfpaaaDoor.H
open Go.RowKit Go.Proofs.YtijdghplfhfpaaaDoorW.PrintWords Go.Proofs.YtijdghplfhfpaaaDoorW.PrintLast Go.Proofs.YtijdghplfhfpaaaDoor.U
set_option linter.unusedVariables false
set_option linter.unusedSimpArgs false
theorem bare_le {ok : ByteArray → ByteArray → Bool} {s loc : ByteArray} {e d : Nat} {a : AAddress} (h : bareP ok s e loc = some (a, d)) : d ≤ s.size := by
  unfold bareP at h
  split at h
  · rename_i h64
    have := nx_lt (s := s) (i := e) (by rw [h64]; decide)
    split at h
    · cases h; exact span_le runB s _ (by omega)
    · cases h
  · cases h
set_option maxHeartbeats 1000000 in
set_option maxRecDepth 100000 in
theorem raddress_calls (b : Nat) (s : ByteArray) (i : Nat) (m : Int) (w : World) (hc : Cur w b s i) (hi : i ≤ s.size) (hs : s.size ≤ 1048576) (hm : w.cell? ⟨6, 0, none⟩ = some (.int .i64 m)) (hg : 6 < b) :
    Calls Tryd.prog 146 #[.pointer (some ⟨b, 0, none⟩)] w (PostB w b s (addrP okAddr s i true)) := by
  generalize hR : addrP okAddr s i true = R
  have ltb := hc.lt
  have hne : some w.heap.size ≠ some b := by simp; omega
  have hM : ∀ W, w.grownBy W (some b) → W.cell? ⟨6, 0, none⟩ = some (.int .i64 m) := fun W h => grown_cell h hm (by omega) (by simp; omega)
  have hM := Lib.hid hM
  clear hm
  go_enter Tryd.func146, Tryd.ntmps146
  go_wp2_with fail
  go_loopw [3] (fun v wr => ∃ k i' : Nat, k ≤ i' ∧ i' ≤ s.size ∧ v = .int .i64 k ∧ Cur wr b s i' ∧ addrP okAddr s i' (decide (k = 0)) = R ∧ Blk wr w.heap.size [.string ⟨#[]⟩, .string ⟨#[]⟩] ∧ w.grownBy wr (some b)) (fun _ wr => s.size - placeOf wr b)
  case atStart => exact ⟨0, i, Nat.zero_le _, hi, rfl, hc.alloc _, hR, Blk.made _ _ _, World.grownBy_alloc _ _ _⟩
  case round =>
    clear hc hR
    obtain ⟨k, i', hk, hi', rfl, hc, hR, k0, gg0⟩ := hrel
    have hp2 := hc.place
    have HS := Lib.hid (fun W hc => rskip_calls b s i' W hc hi' (by omega))
    have hj1 := span_ge blankB s i' hi'
    have hj2 := span_le blankB s i' hi'
    have HN := Lib.hid (fun W hc => rnext_cur b s (spanEnd blankB s i') W hc hj2 (by omega))
    rw [addrP] at hR
    generalize spanEnd blankB s i' = j at *
    by_cases h1 : nx s j = 34
    · rw [if_pos h1] at hR
      rw [h1] at HN
      have hjl := nx_lt (s := s) (i := j) (by rw [h1]; decide)
      have HQ := fun W hc => rquoted_calls b s j W hc hjl (by omega)
      have hq := fun k => qEnd_gt s _ (j + 1) k (Nat.le_refl _)
      clear h1
      generalize qEnd s (j + 1) = qe at *
      have HQ := Lib.hid HQ
      cases qe with
      | none =>
        simp only at hR
        subst hR
        go_wp2_with fail
        refine (HS.out _ hc).mono ?_
        rintro e w1 ⟨rfl, hc1, g1⟩
        have gg1 := grown_trans gg0 g1
        have k1 := k0.grown g1 hne
        go_wp2_with fail
        refine (HN.out _ hc1).mono ?_
        rintro e w2 ⟨rfl, hc2, g2⟩
        have gg2 := grown_trans gg1 g2
        have k2 := k1.grown g2 hne
        go_wp2_with fail
        refine (HQ.out _ hc2).mono ?_
        intro e w3 h3
        obtain ⟨rfl, g3⟩ : _ ∧ _ := h3
        go_wp2_with fail
        exact ⟨rfl, rfl, grown_trans gg2 g3⟩
      | some q =>
        have hq := hq q rfl
        simp only at hR
        rw [if_pos ⟨by omega, hq.2⟩] at hR
        have hR := Lib.hid hR
        go_wp2_with fail
        refine (HS.out _ hc).mono ?_
        rintro e w1 ⟨rfl, hc1, g1⟩
        have gg1 := grown_trans gg0 g1
        have k1 := k0.grown g1 hne
        go_wp2_with fail
        refine (HN.out _ hc1).mono ?_
        rintro e w2 ⟨rfl, hc2, g2⟩
        have gg2 := grown_trans gg1 g2
        have k2 := k1.grown g2 hne
        go_wp2_with fail
        refine (HQ.out _ hc2).mono ?_
        intro e w3 h3
        obtain ⟨rfl, hc3, g3⟩ : _ ∧ _ ∧ _ := h3
        have gg3 := grown_trans gg2 g3
        have k3 := k2.grown g3 hne
        go_wp2_with fail
        go_roundw
        case rel => exact ⟨k + 1, q, by omega, hq.2, by go_num, hc3, by simpa using hR.out, k3, gg3⟩
        case measure => rw [hp2, hc3.place]; omega
    · rw [if_neg h1] at hR
      by_cases h2 : nx s j = 60
      · rw [if_pos h2] at hR
        rw [h2] at HN
        have hjl := nx_lt (s := s) (i := j) (by rw [h2]; decide)
        have HRn := Lib.hid (fun W hc => rrun_calls b s (j + 1) W hc hjl (by omega))
        unfold angP at hR
        have he := span_le runB s (j + 1) (by omega)
        generalize spanEnd runB s (j + 1) = e1 at *
        have hz : (s.extract (j + 1) e1).size ≤ 1048576 := by rw [ext_size he]; omega
        have HB := fun W hc hm => rbare_calls b s (s.extract (j + 1) e1) e1 m W hc he hs hz hm hg
        have hbl := fun a d => bare_le (ok := okAddr) (s := s) (e := e1) (loc := s.extract (j + 1) e1) (a := a) (d := d)
        generalize bareP okAddr s e1 (s.extract (j + 1) e1) = B at *
        generalize s.extract (j + 1) e1 = loc at *
        have HB := Lib.hid HB
        clear h1 h2
        go_wp2_with fail
        refine (HS.out _ hc).mono ?_
        rintro e w1 ⟨rfl, hc1, g1⟩
        have gg1 := grown_trans gg0 g1
        have k1 := k0.grown g1 hne
        go_wp2_with fail
        refine (HN.out _ hc1).mono ?_
        rintro e w2 ⟨rfl, hc2, g2⟩
        have gg2 := grown_trans gg1 g2
        have k2 := k1.grown g2 hne
        have hcA := hc2.setI ((j : Int) + 1) (j + 1) (by omega)
        have kA := k2.other (c := b) (j := 1) (by first | (simp; done) | (simp; omega) | omega) (.int .i64 ((j : Int) + 1))
        have ggA := grown_set gg2 1 (.int .i64 ((j : Int) + 1))
        obtain ⟨c0, c1, f0, f1, lt2⟩ := hc2
        go_wp2_with fail
        refine (HRn.out _ hcA).mono ?_
        rintro e w3 ⟨rfl, hc3, g3⟩
        have gg3 := grown_trans ggA g3
        have k3 := kA.grown g3 hne
        cases B with
        | none =>
          simp only at hR
          subst hR
          go_wp2_with fail
          refine (HB.out _ hc3 (hM.out _ gg3)).mono ?_
          intro e w4 h4
          obtain ⟨rfl, g4⟩ : _ ∧ _ := h4
          go_wp2_with fail
          exact ⟨rfl, rfl, grown_trans gg3 g4⟩
        | some x =>
          obtain ⟨a, d⟩ := x
          have hd := hbl a d rfl
          simp only at hR
          have HN2 := Lib.hid (fun W hc => rnext_cur b s d W hc hd (by omega))
          go_wp2_with fail
          refine (HB.out _ hc3 (hM.out _ gg3)).mono ?_
          intro e w4 h4
          obtain ⟨rfl, hc4, g4⟩ : _ ∧ _ ∧ _ := h4
          have gg4 := grown_trans gg3 g4
          have k4 := k3.grown g4 hne
          have z4 := gg4.size
          have kB := k4.alloc (.cells #[.string a.loc, .string a.dom] 49)
          have lB := Blk.made w4 #[.string a.loc, .string a.dom] 49
          have hcB := hc4.alloc (.cells #[.string a.loc, .string a.dom] 49)
          have ggB := grown_alloc gg4 (.cells #[.string a.loc, .string a.dom] 49)
          have lt4 := hc4.lt
          by_cases h62 : nx s d = 62
          · rw [if_pos h62] at hR
            subst hR
            rw [h62] at HN2
            go_wp2_with fail
            refine (HN2.out _ hcB).mono ?_
            rintro e w5 ⟨rfl, hc5, g5⟩
            have gg5 := grown_trans ggB g5
            have k5 := kB.grown g5 hne
            have l5 := lB.grown g5 (by first | (simp; done) | (simp; omega) | omega)
            go_wp2_with fail
            refine (must_yes _).mono ?_
            rintro e w5' ⟨rfl, rfl⟩
            have hc6 := hc5.setI ((d : Int) + 1) (d + 1) (by omega)
            have k6 := k5.other (c := b) (j := 1) (by first | (simp; done) | (simp; omega) | omega) (.int .i64 ((d : Int) + 1))
            have l6 := l5.other (c := b) (j := 1) (by first | (simp; done) | (simp; omega) | omega) (.int .i64 ((d : Int) + 1))
            have gg6 := grown_set gg5 1 (.int .i64 ((d : Int) + 1))
            obtain ⟨c0, c1, f0, f1, lt2⟩ := hc5
            have q0 := k5.at 0 _ rfl
            have q1 := k5.at 1 _ rfl
            have p0 := k5.free 0 _ rfl
            have p1 := k5.free 1 _ rfl
            have r0 := l5.at 0 _ rfl
            have r1 := l5.at 1 _ rfl
            have n1 : ¬ b = w.heap.size := by omega
            have n2 : ¬ b = w4.heap.size := by omega
            have n3 : ¬ w.heap.size = b := by omega
            have n4 : ¬ w4.heap.size = b := by omega
            go_wp2_with fail
            refine bodyPost_ret (v := .agg #[.string a.loc, .string a.dom]) (by simp [results, Tryd.results146, go_sem, *]) rfl ?_
            exact ⟨rfl, ((hc6.other (by first | (simp; done) | (simp; omega) | omega) _).other (by first | (simp; done) | (simp; omega) | omega) _), (by repeat (first | exact World.grownBy.refl _ _ | apply grown_drawN | apply grown_drew | apply grown_set | apply grown_alloc | (refine grown_new ?_ (by first | (simp; done) | (simp; omega) | omega) _ _) | exact gg5))⟩
          · rw [if_neg h62] at hR
            subst hR
            have e1 : (nx s d == 62) = false := by rw [beq_eq_false_iff_ne]; exact h62
            clear h62
            generalize nx s d = x at *
            go_wp2_with fail
            refine (HN2.out _ hcB).mono ?_
            rintro e w5 ⟨rfl, hc5, g5⟩
            have gg5 := grown_trans ggB g5
            have k5 := kB.grown g5 hne
            go_wp2_with fail
            refine (must_no _).mono ?_
            rintro e w5' ⟨rfl, rfl⟩
            go_wp2_with fail
            exact ⟨rfl, rfl, gg5⟩
      · rw [if_neg h2] at hR
        have e1 : (nx s j == 34) = false := by rw [beq_eq_false_iff_ne]; exact h1
        have e2 : (nx s j == 60) = false := by rw [beq_eq_false_iff_ne]; exact h2
        clear h1 h2
        generalize nx s j = x at *
        have HRn := Lib.hid (fun W hc => rrun_calls b s j W hc hj2 (by omega))
        have he := span_le runB s j hj2
        have he1 := span_ge runB s j hj2
        generalize spanEnd runB s j = e1 at *
        have HN2 := Lib.hid (fun W hc => rnext_cur b s e1 W hc he (by omega))
        have hz : (s.extract j e1).size ≤ 1048576 := by rw [ext_size he]; omega
        have HB := fun W hc hm => rbare_calls b s (s.extract j e1) e1 m W hc he hs hz hm hg
        have hbl := fun a d => bare_le (ok := okAddr) (s := s) (e := e1) (loc := s.extract j e1) (a := a) (d := d)
        generalize bareP okAddr s e1 (s.extract j e1) = B at *
        have hem : j < e1 → (s.extract j e1) ≠ ⟨[].toArray⟩ := fun h he' => by
          have := congrArg ByteArray.size he'
          rw [ext_size he] at this
          have h0 : (⟨[].toArray⟩ : ByteArray).size = 0 := rfl
          omega
        have hem2 : ¬ j < e1 → (s.extract j e1) = ⟨[].toArray⟩ := fun h => by
          rw [show e1 = j by omega]; apply ByteArray.ext; simp
        generalize s.extract j e1 = loc at *
        have HB := Lib.hid HB
        by_cases hA : k = 0 ∧ nx s e1 = 64
        · obtain ⟨rfl, h64⟩ := hA
          rw [if_pos ⟨by simp, h64⟩] at hR
          rw [h64] at HN2
          clear hem hem2
          subst hR
          clear h64
          go_wp2_with fail
          refine (HS.out _ hc).mono ?_
          rintro e w1 ⟨rfl, hc1, g1⟩
          have gg1 := grown_trans gg0 g1
          have k1 := k0.grown g1 hne
          go_wp2_with fail
          refine (HN.out _ hc1).mono ?_
          rintro e w2 ⟨rfl, hc2, g2⟩
          have gg2 := grown_trans gg1 g2
          have k2 := k1.grown g2 hne
          go_wp2_with fail
          refine (HRn.out _ hc2).mono ?_
          rintro e w3 ⟨rfl, hc3, g3⟩
          have gg3 := grown_trans gg2 g3
          have k3 := k2.grown g3 hne
          go_wp2_with fail
          refine (HN2.out _ hc3).mono ?_
          rintro e w4 ⟨rfl, hc4, g4⟩
          have gg4 := grown_trans gg3 g4
          have k4 := k3.grown g4 hne
          go_wp2_with fail
          refine (HB.out _ hc4 (hM.out _ gg4)).mono ?_
          intro e w5 h5
          cases B with
          | none =>
            obtain ⟨rfl, g5⟩ : _ ∧ _ := h5
            go_wp2_with fail
            exact ⟨rfl, rfl, grown_trans gg4 g5⟩
          | some x =>
            obtain ⟨a, d⟩ := x
            obtain ⟨rfl, hc5, g5⟩ : _ ∧ _ ∧ _ := h5
            have k5 := k4.grown g5 hne
            have gg5 := grown_trans gg4 g5
            have q0 := k5.at 0 _ rfl
            have q1 := k5.at 1 _ rfl
            have p0 := k5.free 0 _ rfl
            have p1 := k5.free 1 _ rfl
            go_wp2_with fail
            refine bodyPost_ret (v := .agg #[.string a.loc, .string a.dom]) (by simp [results, Tryd.results146, go_sem, *]) rfl ?_
            exact ⟨rfl, ((hc5.other (by first | (simp; done) | (simp; omega) | omega) _).other (by first | (simp; done) | (simp; omega) | omega) _), (by repeat (first | exact World.grownBy.refl _ _ | apply grown_drawN | apply grown_drew | apply grown_set | apply grown_alloc | (refine grown_new ?_ (by first | (simp; done) | (simp; omega) | omega) _ _) | exact gg5))⟩
        · rw [if_neg (fun h => hA ⟨by simpa using h.1, h.2⟩)] at hR
          clear HB hbl
          rcases (Decidable.em (nx s e1 = 64)).elim (fun h => Or.inr (And.intro h fun h0 => hA ⟨h0, h⟩)) Or.inl with h64 | ⟨h64, hk0⟩
          · have e3 : (nx s e1 == 64) = false := by rw [beq_eq_false_iff_ne]; exact h64
            clear h64 hA
            generalize nx s e1 = y at *
            by_cases hje : j < e1
            · rw [if_pos ⟨hje, by omega, he⟩] at hR
              have q1 := lit_no (hem hje)
              have hR := Lib.hid hR
              clear hem hem2
              go_wp2_with fail
              refine (HS.out _ hc).mono ?_
              rintro e w1 ⟨rfl, hc1, g1⟩
              have gg1 := grown_trans gg0 g1
              have k1 := k0.grown g1 hne
              go_wp2_with fail
              refine (HN.out _ hc1).mono ?_
              rintro e w2 ⟨rfl, hc2, g2⟩
              have gg2 := grown_trans gg1 g2
              have k2 := k1.grown g2 hne
              go_wp2_with fail
              refine (HRn.out _ hc2).mono ?_
              rintro e w3 ⟨rfl, hc3, g3⟩
              have gg3 := grown_trans gg2 g3
              have k3 := k2.grown g3 hne
              go_wp2_with fail
              refine (HN2.out _ hc3).mono ?_
              rintro e w4 ⟨rfl, hc4, g4⟩
              have gg4 := grown_trans gg3 g4
              have k4 := k3.grown g4 hne
              go_wp2_with fail
              refine (must_yes _).mono ?_
              rintro e w5' ⟨rfl, rfl⟩
              go_wp2_with fail
              go_roundw
              case rel => exact ⟨k + 1, e1, by omega, he, by go_num, hc4, by simpa using hR.out, k4, gg4⟩
              case measure => rw [hp2, hc4.place]; omega
            · rw [if_neg (fun h => hje h.1)] at hR
              have q1 := lit_yes (hem2 hje)
              subst hR
              clear hem hem2
              go_wp2_with fail
              refine (HS.out _ hc).mono ?_
              rintro e w1 ⟨rfl, hc1, g1⟩
              have gg1 := grown_trans gg0 g1
              have k1 := k0.grown g1 hne
              go_wp2_with fail
              refine (HN.out _ hc1).mono ?_
              rintro e w2 ⟨rfl, hc2, g2⟩
              have gg2 := grown_trans gg1 g2
              have k2 := k1.grown g2 hne
              go_wp2_with fail
              refine (HRn.out _ hc2).mono ?_
              rintro e w3 ⟨rfl, hc3, g3⟩
              have gg3 := grown_trans gg2 g3
              have k3 := k2.grown g3 hne
              go_wp2_with fail
              refine (HN2.out _ hc3).mono ?_
              rintro e w4 ⟨rfl, hc4, g4⟩
              have gg4 := grown_trans gg3 g4
              have k4 := k3.grown g4 hne
              go_wp2_with fail
              refine (must_no _).mono ?_
              rintro e w5' ⟨rfl, rfl⟩
              go_wp2_with fail
              exact ⟨rfl, rfl, gg4⟩
          · rw [h64] at HN2
            have e3 : ((k : Int) == 0) = false := by rw [beq_eq_false_iff_ne]; omega
            clear h64 hA
            by_cases hje : j < e1
            · rw [if_pos ⟨hje, by omega, he⟩] at hR
              have q1 := lit_no (hem hje)
              have hR := Lib.hid hR
              clear hem hem2
              go_wp2_with fail
              refine (HS.out _ hc).mono ?_
              rintro e w1 ⟨rfl, hc1, g1⟩
              have gg1 := grown_trans gg0 g1
              have k1 := k0.grown g1 hne
              go_wp2_with fail
              refine (HN.out _ hc1).mono ?_
              rintro e w2 ⟨rfl, hc2, g2⟩
              have gg2 := grown_trans gg1 g2
              have k2 := k1.grown g2 hne
              go_wp2_with fail
              refine (HRn.out _ hc2).mono ?_
              rintro e w3 ⟨rfl, hc3, g3⟩
              have gg3 := grown_trans gg2 g3
              have k3 := k2.grown g3 hne
              go_wp2_with fail
              refine (HN2.out _ hc3).mono ?_
              rintro e w4 ⟨rfl, hc4, g4⟩
              have gg4 := grown_trans gg3 g4
              have k4 := k3.grown g4 hne
              go_wp2_with fail
              refine (must_yes _).mono ?_
              rintro e w5' ⟨rfl, rfl⟩
              go_wp2_with fail
              go_roundw
              case rel => exact ⟨k + 1, e1, by omega, he, by go_num, hc4, by simpa using hR.out, k4, gg4⟩
              case measure => rw [hp2, hc4.place]; omega
            · rw [if_neg (fun h => hje h.1)] at hR
              have q1 := lit_yes (hem2 hje)
              subst hR
              clear hem hem2
              go_wp2_with fail
              refine (HS.out _ hc).mono ?_
              rintro e w1 ⟨rfl, hc1, g1⟩
              have gg1 := grown_trans gg0 g1
              have k1 := k0.grown g1 hne
              go_wp2_with fail
              refine (HN.out _ hc1).mono ?_
              rintro e w2 ⟨rfl, hc2, g2⟩
              have gg2 := grown_trans gg1 g2
              have k2 := k1.grown g2 hne
              go_wp2_with fail
              refine (HRn.out _ hc2).mono ?_
              rintro e w3 ⟨rfl, hc3, g3⟩
              have gg3 := grown_trans gg2 g3
              have k3 := k2.grown g3 hne
              go_wp2_with fail
              refine (HN2.out _ hc3).mono ?_
              rintro e w4 ⟨rfl, hc4, g4⟩
              have gg4 := grown_trans gg3 g4
              have k4 := k3.grown g4 hne
              go_wp2_with fail
              refine (must_no _).mono ?_
              rintro e w5' ⟨rfl, rfl⟩
              go_wp2_with fail
              exact ⟨rfl, rfl, gg4⟩
end Go.Proofs.YtijdghplfhfpaaaDoor.H

/- Rows of addresses: the walks. -/
namespace Go.Proofs.YtijdghplfhfpaaaDoor.H
open Go.RowKit Go.Proofs.YtijdghplfhfpaaaDoorW.PrintWords Go.Proofs.YtijdghplfhfpaaaDoorW.PrintLast Go.Proofs.YtijdghplfhfpaaaDoor.U
set_option linter.unusedVariables false
set_option linter.unusedSimpArgs false
theorem rowAAddress : RowT Tryd.prog kAAddress 50 49 32 (.agg #[.string ⟨#[]⟩, .string ⟨#[]⟩]) :=
  ⟨Tryd.underlying50, by kernel_rfl, rfl, by decide, by decide, flat_kd⟩
def eqbAAddress (x y : AAddress) : Bool := x.loc.toList == y.loc.toList && (x.dom.toList == y.dom.toList)
theorem eqbAAddress_iff {x y : AAddress} : eqbAAddress x y = true ↔ x = y := by
  cases x; cases y
  simp only [eqbAAddress, Bool.and_eq_true, beq_iff_eq, ByteArray.toList_eq, bytes_iff, AAddress.mk.injEq]
theorem eqbAAddress_self (x : AAddress) : eqbAAddress x x = true := eqbAAddress_iff.2 rfl
theorem eqAAddress (d : Nat) (w : World) (x_loc : ByteArray) (x_dom : ByteArray) (y_loc : ByteArray) (y_dom : ByteArray) :
    (Op.equalIn (d + 2) 49 (.agg #[.string x_loc, .string x_dom]) (.agg #[.string y_loc, .string y_dom])).run Tryd.prog w = .ok (eqbAAddress ⟨x_loc, x_dom⟩ ⟨y_loc, y_dom⟩) w := by
  refine eqA_of Tryd.underlying49 (by kernel_rfl) ?_
  refine eqf_cons (by rfl) (by go_simp; rfl) (by go_simp; rfl) (by go_simp) ?_
  exact eqf_last (by rfl) (by go_simp; rfl) (by go_simp; rfl) (by go_simp)
attribute [local go_sem high] eqAAddress
set_option maxHeartbeats 1000000 in
set_option maxRecDepth 100000 in
theorem cloneAddrs_calls (A : Option Addr) (c : Nat) (l : List AAddress) (w : World) (hr : Kd.C kAAddress w A l.length l) (hl : l.length * 32 ≤ 140737488355328) :
    Calls Tryd.prog 64 #[.slice A l.length c] w fun e w' => ∃ v : Value, e = .returned v ∧ Kd.R kAAddress 49 w' w.heap.size (fun _ => True) v l ∧ Below w.heap.size w w' := by
  have hnil := fun (w : World) (a : Option Addr) (n c n' c' : Nat) => Lib.run_eql_slice_nil (P := Tryd.prog) w _ _ a n c n' c' rowAAddress.ht
  cases A with
  | none =>
    obtain ⟨rfl, _⟩ := C_nil _ w rfl hr
    go_enter Tryd.func64, Tryd.ntmps64
    go_wp2
    go_ret
    exact ⟨_, rfl, Kd.R_nil _ _ _ _ _, Below.refl _ _⟩
  | some ad =>
    go_enter Tryd.func64, Tryd.ntmps64
    go_wp2_with (at_builtin; refine rows_list rowAAddress w.heap.size rfl _ _ rfl (.slice (some ⟨w.heap.size, 0, none⟩) 0 0) [] l (some ad) c rfl rfl (R_lit0 _ _ _) (Kd.C_below hr (by repeat (first | exact Below.refl _ _ | apply below_alloc | apply pw_below_drewN | apply below_drew1))) (by simp) (by simpa using hl) ?_; intro v1 w1 hR hb1 hg1)
    go_ret
    exact ⟨_, rfl, hR, ((Below.refl _ _).alloc (Nat.le_refl _) _).trans hb1⟩
attribute [local go_sem high] eqbAAddress_self
set_option maxHeartbeats 1000000 in
set_option maxRecDepth 100000 in
theorem sameAddrs_calls (A : Option Addr) (c : Nat) (A2 : Option Addr) (c2 : Nat) (l : List AAddress) (w : World) (hr : Kd.C kAAddress w A l.length l) (hr2 : Kd.C kAAddress w A2 l.length l) :
    Calls Tryd.prog 69 #[.slice A l.length c, .slice A2 l.length c2] w fun e w' => e = .returned (.bool true) ∧ Below w.heap.size w w' := by
  have h63 := hr.2.1
  go_enter Tryd.func69, Tryd.ntmps69
  go_wp2
  go_loopw [5] (fun i wr => ∃ k : Nat, k ≤ l.length ∧ i = .int .i64 k ∧ ∃ q, wr = w.drewN q) (fun i _ => l.length - (intOf i).toNat)
  case atStart => exact ⟨0, Nat.zero_le _, rfl, 0, rfl⟩
  case round =>
    obtain ⟨k, hk, rfl, q, rfl⟩ := hrel
    by_cases hlt : k < l.length
    · obtain ⟨ad, e1, hx0, hxj⟩ := flat_at hr k hlt
      obtain ⟨ad2, e2, hy0, hyj⟩ := flat_at hr2 k hlt
      subst e1 e2
      have q0 := hx0 _ rfl; have q1 := hxj 1 _ (by decide) rfl
      have r0 := hy0 _ rfl; have r1 := hyj 1 _ (by decide) rfl
      clear hx0 hxj hy0 hyj
      have i0 : (0 : Int) ≤ (k : Int) := by omega
      have i1 : (k : Int) < (l.length : Int) := by omega
      go_wp2
      go_quiet (fail)
      go_wp2
      go_roundw
      case rel => exact ⟨k + 1, by omega, by go_num, _, rfl⟩
      case measure => simp [intOf]; omega
    · obtain rfl : k = l.length := by omega
      go_wp2
      go_ret
      exact ⟨rfl, by first | exact Below.refl _ _ | exact pw_below_drewN (Below.refl _ _) _⟩
attribute [-go_sem] eqbAAddress_self
def hasA (l : List AAddress) (x : AAddress) : Bool := l.any fun y => eqbAAddress y x
theorem hasA_no {l : List AAddress} {x : AAddress} (h : ∀ j (hj : j < l.length), eqbAAddress l[j] x = false) : hasA l x = false := by
  rw [hasA, List.any_eq_false]
  intro y hy
  obtain ⟨i, hi, rfl⟩ := List.mem_iff_getElem.1 hy
  simpa using h i hi
theorem hasA_yes {l : List AAddress} {x : AAddress} (k : Nat) (hk : k < l.length) (h : eqbAAddress l[k] x = true) : hasA l x = true := by
  rw [hasA, List.any_eq_true]
  exact ⟨_, List.getElem_mem hk, h⟩
set_option maxHeartbeats 1000000 in
set_option maxRecDepth 100000 in
theorem addressIn_calls (A : Option Addr) (c : Nat) (l : List AAddress) (x : AAddress) (w : World) (hr : Kd.C kAAddress w A l.length l) :
    Calls Tryd.prog 105 #[.slice A l.length c, .agg #[.string x.loc, .string x.dom]] w fun e w' => e = .returned (.bool (hasA l x)) ∧ Below w.heap.size w w' := by
  have h63 := hr.2.1
  have hyes := fun k hk h => hasA_yes (l := l) (x := x) k hk h
  have hall := fun h => hasA_no (l := l) (x := x) h
  generalize hasA l x = r at *
  have HY := Lib.hid (And.intro hyes hall)
  clear hyes hall
  go_enter Tryd.func105, Tryd.ntmps105
  go_wp2
  go_loopw [5] (fun i wr => ∃ k : Nat, k ≤ l.length ∧ i = .int .i64 k ∧ (∀ j (hj : j < l.length), j < k → eqbAAddress l[j] x = false) ∧ Below (w.heap.size + 1) (w.alloc (.cells #[.string x.loc, .string x.dom] 49)) wr) (fun i _ => l.length - (intOf i).toNat)
  case atStart => exact ⟨0, Nat.zero_le _, rfl, fun j _ hj => absurd hj (Nat.not_lt_zero _), Below.refl _ _⟩
  case round =>
    obtain ⟨k, hk, rfl, hne, hB⟩ := hrel
    have hne := Lib.hid hne
    by_cases hlt : k < l.length
    · obtain ⟨hcb, hfb⟩ := bcellB hB
      have x0 : wr.cell? ⟨w.heap.size, 0, none⟩ = some (.string x.loc) := by rw [hcb _ _ (by omega)]; simp
      have x1 : wr.cell? ⟨w.heap.size, 1, none⟩ = some (.string x.dom) := by rw [hcb _ _ (by omega)]; simp
      have hz := hB.size
      simp at hz
      obtain ⟨ad, e1, hx0, hxj⟩ := flat_at (show Kd.C kAAddress wr A l.length l from Kd.C_below (n := l.length) hr (show Below w.heap.size w wr from (by repeat (first | exact Below.refl _ _ | apply below_alloc | apply pw_below_drewN | apply below_drew1 | (refine Below.setCell ?_ (by first | (simp; done) | (simp; omega) | omega) _) | (refine Below.trans ?_ (Below.mono hB (by first | (simp; done) | (simp; omega) | omega))))))) k hlt
      subst e1
      have q0 := hx0 _ rfl; have q1 := hxj 1 _ (by decide) rfl
      clear hx0 hxj hcb hfb
      have hs : eqbAAddress l[k] x = false → ∀ j (hj : j < l.length), j < k + 1 → eqbAAddress l[j] x = false := fun h j hj hjk => by
        rcases Nat.lt_or_ge j k with h' | h'
        · exact hne.out j hj h'
        · obtain rfl : j = k := by omega
          exact h
      have HS := Lib.hid hs
      clear hs hne
      have i0 : (0 : Int) ≤ (k : Int) := by omega
      have i1 : (k : Int) < (l.length : Int) := by omega
      cases hq : eqbAAddress l[k] x with
      | true =>
        obtain rfl := HY.out.1 k hlt hq
        go_wp2
        go_quiet (fail)
        go_wp2
        go_ret
        exact ⟨(by first | rfl | (simp; done) | (simp [*]; done) | (rw [if_pos (by omega)]; first | rfl | (simp; done)) | (rw [if_neg (by omega)]; first | rfl | (simp; done)) | (simp; omega)), (by repeat (first | exact Below.refl _ _ | apply below_alloc | apply pw_below_drewN | apply below_drew1 | (refine Below.setCell ?_ (by first | (simp; done) | (simp; omega) | omega) _) | (refine Below.trans ?_ (Below.mono hB (by first | (simp; done) | (simp; omega) | omega)))))⟩
      | false =>
        go_wp2
        go_quiet (fail)
        go_wp2
        go_roundw
        case rel => exact ⟨k + 1, by omega, by go_num, HS.out hq, (by repeat (first | exact Below.refl _ _ | apply below_alloc | apply pw_below_drewN | apply below_drew1 | (refine Below.setCell ?_ (by first | (simp; done) | (simp; omega) | omega) _) | exact hB))⟩
        case measure => simp [intOf]; omega
    · obtain rfl : k = l.length := by omega
      obtain rfl := HY.out.2 (fun j hj => hne.out j hj hj)
      go_wp2
      go_ret
      exact ⟨(by first | rfl | (simp; done) | (simp [*]; done) | (rw [if_pos (by omega)]; first | rfl | (simp; done)) | (rw [if_neg (by omega)]; first | rfl | (simp; done)) | (simp; omega)), (by repeat (first | exact Below.refl _ _ | apply below_alloc | apply pw_below_drewN | apply below_drew1 | (refine Below.setCell ?_ (by first | (simp; done) | (simp; omega) | omega) _) | (refine Below.trans ?_ (Below.mono hB (by first | (simp; done) | (simp; omega) | omega)))))⟩
set_option maxHeartbeats 1000000 in
set_option maxRecDepth 100000 in
theorem addrIndex_calls (A : Option Addr) (c : Nat) (l : List AAddress) (x : AAddress) (w : World) (hr : Kd.C kAAddress w A l.length l) :
    Calls Tryd.prog 153 #[.slice A l.length c, .agg #[.string x.loc, .string x.dom]] w fun e w' => (∃ i : Int, e = .returned (.int .i64 i) ∧ (hasA l x = decide (0 ≤ i))) ∧ Below w.heap.size w w' := by
  have h63 := hr.2.1
  have hyes := fun k hk h => hasA_yes (l := l) (x := x) k hk h
  have hall := fun h => hasA_no (l := l) (x := x) h
  generalize hasA l x = r at *
  have HY := Lib.hid (And.intro hyes hall)
  clear hyes hall
  go_enter Tryd.func153, Tryd.ntmps153
  go_wp2
  go_loopw [5, 8] (fun _ i wr => ∃ k : Nat, k ≤ l.length ∧ i = .int .i64 k ∧ (∀ j (hj : j < l.length), j < k → eqbAAddress l[j] x = false) ∧ Below (w.heap.size + 1) (w.alloc (.cells #[.string x.loc, .string x.dom] 49)) wr) (fun _ i _ => l.length - (intOf i).toNat)
  case atStart => exact ⟨0, Nat.zero_le _, rfl, fun j _ hj => absurd hj (Nat.not_lt_zero _), Below.refl _ _⟩
  case round =>
    obtain ⟨k, hk, rfl, hne, hB⟩ := hrel
    have hne := Lib.hid hne
    by_cases hlt : k < l.length
    · obtain ⟨hcb, hfb⟩ := bcellB hB
      have x0 : wr.cell? ⟨w.heap.size, 0, none⟩ = some (.string x.loc) := by rw [hcb _ _ (by omega)]; simp
      have x1 : wr.cell? ⟨w.heap.size, 1, none⟩ = some (.string x.dom) := by rw [hcb _ _ (by omega)]; simp
      have hz := hB.size
      simp at hz
      obtain ⟨ad, e1, hx0, hxj⟩ := flat_at (show Kd.C kAAddress wr A l.length l from Kd.C_below (n := l.length) hr (show Below w.heap.size w wr from (by repeat (first | exact Below.refl _ _ | apply below_alloc | apply pw_below_drewN | apply below_drew1 | (refine Below.setCell ?_ (by first | (simp; done) | (simp; omega) | omega) _) | (refine Below.trans ?_ (Below.mono hB (by first | (simp; done) | (simp; omega) | omega))))))) k hlt
      subst e1
      have q0 := hx0 _ rfl; have q1 := hxj 1 _ (by decide) rfl
      clear hx0 hxj hcb hfb
      have hs : eqbAAddress l[k] x = false → ∀ j (hj : j < l.length), j < k + 1 → eqbAAddress l[j] x = false := fun h j hj hjk => by
        rcases Nat.lt_or_ge j k with h' | h'
        · exact hne.out j hj h'
        · obtain rfl : j = k := by omega
          exact h
      have HS := Lib.hid hs
      clear hs hne
      have i0 : (0 : Int) ≤ (k : Int) := by omega
      have i1 : (k : Int) < (l.length : Int) := by omega
      have hsym : eqbAAddress x l[k] = eqbAAddress l[k] x := by
        rw [Bool.eq_iff_iff, eqbAAddress_iff, eqbAAddress_iff]; exact eq_comm
      cases hq : eqbAAddress l[k] x with
      | true =>
        rw [hq] at hsym
        obtain rfl := HY.out.1 k hlt hq
        go_wp2
        go_quiet (fail)
        go_wp2
        go_ret
        exact ⟨⟨_, rfl, by simp⟩, (by repeat (first | exact Below.refl _ _ | apply below_alloc | apply pw_below_drewN | apply below_drew1 | (refine Below.setCell ?_ (by first | (simp; done) | (simp; omega) | omega) _) | (refine Below.trans ?_ (Below.mono hB (by first | (simp; done) | (simp; omega) | omega)))))⟩
      | false =>
        rw [hq] at hsym
        go_wp2
        go_quiet (fail)
        go_wp2
        go_roundw
        case rel => exact ⟨k + 1, by omega, by go_num, HS.out hq, (by repeat (first | exact Below.refl _ _ | apply below_alloc | apply pw_below_drewN | apply below_drew1 | (refine Below.setCell ?_ (by first | (simp; done) | (simp; omega) | omega) _) | exact hB))⟩
        case measure => simp [intOf]; omega
    · obtain rfl : k = l.length := by omega
      obtain rfl := HY.out.2 (fun j hj => hne.out j hj hj)
      go_wp2
      go_ret
      exact ⟨⟨_, rfl, by simp⟩, (by repeat (first | exact Below.refl _ _ | apply below_alloc | apply pw_below_drewN | apply below_drew1 | (refine Below.setCell ?_ (by first | (simp; done) | (simp; omega) | omega) _) | (refine Below.trans ?_ (Below.mono hB (by first | (simp; done) | (simp; omega) | omega)))))⟩
set_option maxHeartbeats 1000000 in
set_option maxRecDepth 100000 in
theorem addrContains_calls (A : Option Addr) (c : Nat) (l : List AAddress) (x : AAddress) (w : World) (hr : Kd.C kAAddress w A l.length l) :
    Calls Tryd.prog 98 #[.slice A l.length c, .agg #[.string x.loc, .string x.dom]] w fun e w' => e = .returned (.bool (hasA l x)) ∧ Below w.heap.size w w' := by
  have HI := fun w hr => addrIndex_calls A c l x w hr
  generalize hasA l x = r at *
  have HI := Lib.hid HI
  go_enter Tryd.func98, Tryd.ntmps98
  go_wp2_with fail
  refine (HI.out _ (Kd.C_below hr (by repeat (first | exact Below.refl _ _ | apply below_alloc | apply pw_below_drewN | apply below_drew1 | (refine Below.setCell ?_ (by first | (simp; done) | (simp; omega) | omega) _) )))).mono ?_
  rintro e w1 ⟨⟨i, rfl, hi⟩, hb1⟩
  subst hi
  by_cases h : 0 ≤ i
  all_goals
    go_wp2_with fail
    go_ret
    exact ⟨by simp [h], (by repeat (first | exact Below.refl _ _ | apply below_alloc | apply pw_below_drewN | apply below_drew1 | (refine Below.setCell ?_ (by first | (simp; done) | (simp; omega) | omega) _) | (refine below_then ?_ (by first | (simp; done) | (simp; omega) | omega) hb1)))⟩
end Go.Proofs.YtijdghplfhfpaaaDoor.H

/- Lists of addresses: who.List, its deferred closure: the walks. -/
namespace Go.Proofs.YtijdghplfhfpaaaDoor.H
open Go.RowKit Go.Proofs.YtijdghplfhfpaaaDoorW.PrintWords Go.Proofs.YtijdghplfhfpaaaDoorW.PrintLast Go.Proofs.YtijdghplfhfpaaaDoor.U
set_option linter.unusedVariables false
set_option linter.unusedSimpArgs false
/-- The panic of who.must, recovered. -/
def mustR : List PanicEntry := [{ v := .iface 26 (.int .i64 3), recovered := true }]
theorem catch_panicking (bl be : Nat) (v u : Value) (w : World) (hl : Blk w bl [v]) (he : Blk w be [u]) (hne : bl ≠ be) :
    CallsD Tryd.prog 145 #[.pointer (some ⟨bl, 0, none⟩), .pointer (some ⟨be, 0, none⟩)] (.panicking mustP) w fun e u' w' =>
      e = .returned (.tuple #[]) ∧ u' = .panicking mustR ∧ Blk w' bl [.slice none 0 0] ∧ Blk w' be [.int .i64 3] ∧ (∀ B, B ≤ bl → B ≤ be → Below B w w') := by
  have c0 := hl.at 0 _ rfl
  have c1 := he.at 0 _ rfl
  have f0 := hl.free 0 _ rfl
  have f1 := he.free 0 _ rfl
  refine callsD_of_wpS Tryd.func145 rfl fun c₀ cs hu => ?_
  unfold mustP at hu
  apply wpS_seq
  apply wpS_region
  simp [wpOpsS, go_sem, recoverD, hu, Tryd.ntmps145, Exit.thenS]
  refine wpS_of_wp ?_
  rw [show (#[Value.pointer (some ⟨bl, 0, none⟩), Value.pointer (some ⟨be, 0, none⟩)] ++ ((Array.replicate 6 undef).setIfInBounds 1 (Value.iface 26 (Value.int IntKind.i64 3))).setIfInBounds 0 (Value.iface 26 (Value.int IntKind.i64 3)) : Array Value) = #[Value.pointer (some ⟨bl, 0, none⟩), Value.pointer (some ⟨be, 0, none⟩), Value.iface 26 (Value.int IntKind.i64 3), Value.iface 26 (Value.int IntKind.i64 3), undef, undef, undef, undef] from rfl]
  have ht : ∀ w, (Instr.typeAssert (.iface 26 (.int .i64 3)) 20 26 false).run Tryd.prog w = .ok (.int .i64 3) w := fun _ => by kernel_rfl
  go_wp2
  go_region
  refine ⟨rfl, _, rfl, _, by simp [results, Tryd.results145, go_sem], rfl, rfl, ?_, ?_, fun B h1 h2 => ?_⟩
  · exact ((hl.set 0 (.slice none 0 0) (by simp)).other (c := be) (j := 0) (fun h => hne h.symm) (.int .i64 3)).drew
  · exact ((he.other (c := bl) (j := 0) hne (.slice none 0 0)).set 0 (.int .i64 3) (by simp)).drew
  · exact (((Below.refl B w).setCell (p := ⟨bl, 0, none⟩) h1 _).setCell (p := ⟨be, 0, none⟩) h2 _).drew
theorem catch_idle (bl be : Nat) (w : World) :
    CallsD Tryd.prog 145 #[.pointer (some ⟨bl, 0, none⟩), .pointer (some ⟨be, 0, none⟩)] .returning w fun e u' w' => e = .returned (.tuple #[]) ∧ u' = .returning ∧ w' = w := by
  refine callsD_of_wpS Tryd.func145 rfl fun c₀ cs hu => ?_
  apply wpS_seq
  apply wpS_region
  simp [wpOpsS, go_sem, recoverD, hu, Tryd.ntmps145, Exit.thenS]
  refine wpS_of_wp ?_
  rw [show (#[Value.pointer (some ⟨bl, 0, none⟩), Value.pointer (some ⟨be, 0, none⟩)] ++ ((Array.replicate 6 undef).setIfInBounds 1 Value.nilIface).setIfInBounds 0 Value.nilIface : Array Value) = #[Value.pointer (some ⟨bl, 0, none⟩), Value.pointer (some ⟨be, 0, none⟩), Value.nilIface, Value.nilIface, undef, undef, undef, undef] from rfl]
  go_wp2
  exact ⟨rfl, .returning, by cases c₀; simp_all, _, by simp [results, Tryd.results145, go_sem], rfl, rfl, rfl⟩
theorem okAddr_empty : ∀ x, okAddr x ⟨#[]⟩ = false ∧ okAddr ⟨#[]⟩ x = false := by
  intro x
  have h : dotB ⟨#[]⟩ = false := rfl
  constructor
  · simp [okAddr, addrFault, h]
  · simp [okAddr, addrFault, h]
def listRes (R : Option (List AAddress)) : Int × List AAddress :=
  match R with
  | none => (3, [])
  | some l => if 20 < l.length then (5, []) else (0, l)
def listV (s : ByteArray) : Int × List AAddress := if 2000 < s.size then (1, []) else listRes (listP okAddr s 0)
/-- A list of addresses and an Errno are handed back. -/
def PostL (w : World) (r : Int × List AAddress) (e : Ending) (w' : World) : Prop :=
  ∃ v : Value, e = .returned (.tuple #[v, .int .i64 r.1]) ∧ Kd.R kAAddress 49 w' w.heap.size (fun _ => True) v r.2 ∧ Below w.heap.size w w'
set_option maxHeartbeats 1000000 in
set_option maxRecDepth 100000 in
theorem list_calls (s : ByteArray) (m : Int) (w : World) (hs : s.size ≤ 1048576) (hm : w.cell? ⟨6, 0, none⟩ = some (.int .i64 m)) (hg : 6 < w.heap.size) :
    Calls Tryd.prog 87 #[.string s] w (PostL w (listV s)) := by
  have hmf : ∀ (fn : Fn) (first cap : Array Value) (w : World), (Instr.makeFunc fn first cap).run Tryd.prog w = .ok (.func fn first cap) w := fun _ _ _ _ => rfl
  unfold listV
  by_cases hz : 2000 < s.size
  · rw [if_pos hz]
    have hz' : (2000 : Int) < s.size := by omega
    go_enter_defers Tryd.func87, Tryd.ntmps87
    go_wp2
    refine ⟨.tuple #[.slice none 0 0, .int .i64 1], by simp [results, Tryd.results87, go_sem], ?_⟩
    refine ⟨_, rfl, Kd.R_nil _ _ _ _ _, (by repeat (first | exact Below.refl _ _ | apply below_alloc | apply pw_below_drewN | apply below_drew1 | (refine Below.setCell ?_ (by first | (simp; done) | (simp; omega) | omega) _) ))⟩
  · rw [if_neg hz]
    have hz' : ¬ (2000 : Int) < s.size := by omega
    generalize hR : listP okAddr s 0 = R
    go_enter_defers Tryd.func87, Tryd.ntmps87
    go_wp2_with fail
    go_loopw [] (fun wr => ∃ (i : Nat) (acc : List AAddress) (v : Value), i ≤ s.size ∧ Cur wr (w.heap.size + 2) s i ∧ Blk wr w.heap.size [v] ∧ Blk wr (w.heap.size + 1) [.int .i64 0] ∧ Kd.R kAAddress 49 wr (w.heap.size + 3) (fun _ => True) v acc ∧ (listP okAddr s i).map (acc ++ ·) = R ∧ acc.length ≤ i ∧ Below w.heap.size w wr) (fun wr => s.size - placeOf wr (w.heap.size + 2))
    case atStart =>
      refine ⟨0, [], .slice none 0 0, Nat.zero_le _, Cur.made_at _ 0 _ _ (by simp), ((Blk.made w #[.slice none 0 0] _).alloc _).alloc _, (Blk.made_at #[.int .i64 0] _ _ (by simp)).alloc _, Kd.R_nil _ _ _ _ _, ?_, Nat.le_refl _, (by repeat (first | exact Below.refl _ _ | apply below_alloc | apply pw_below_drewN | apply below_drew1 | (refine Below.setCell ?_ (by first | (simp; done) | (simp; omega) | omega) _) ))⟩
      · rw [← hR]; cases listP okAddr s 0 <;> rfl
    case round =>
      clear hR
      obtain ⟨i, acc, v, hi, hc, kl, ke, hRow, hR, hacc, hB⟩ := hrel
      have hp2 := hc.place
      have HA := fun W hc hm => raddress_calls (w.heap.size + 2) s i m W hc hi hs hm (by omega)
      rw [listP] at hR
      have hAg := addr_agree (ok := okAddr) (s := s) okAddr_empty i false hi
      generalize addrP okAddr s i true = A at *
      have HA := Lib.hid HA
      have c0 := kl.at 0 _ rfl
      have hM := cell_below hB hm hg
      cases A with
      | none =>
        simp only [Option.map_none] at hR
        subst hR
        go_wp2_with fail
        refine wp_region_held_drew (S := fun w' => w'.cell? ⟨w.heap.size, 0, none⟩ = some v) (by kernel_rfl) (by simpa using c0) (fun hHeld => ?_)
        refine wpAnyH_take (i := 0) (oi := { dst := some 12, op := _, type := _, pos := _, after := _, guard := _ }) (v := v) rfl (by kernel_rfl) (by kernel_rfl) (by kernel_rfl) (fun _ _ _ h => panic_put (fn := Tryd.f87) (d := 12) (v := v) (by simp [results, Tryd.results87]) h) (Or.inl ⟨by rfl, by (intro w hSw; (try dsimp only at hSw); first | (go_simp; done) | (go_simp; with_reducible rfl) | (go_simp; omega) | (go_simp; simp [*]; done))⟩) (by assumption) ?_; try simp only [Act.put, List.setIfInBounds_toArray, List.set_cons_zero, List.set_cons_succ]
        refine wpAnyH_take (i := 1) (oi := { dst := some 13, op := _, type := _, pos := _, after := _, guard := _ }) (v := .pointer (some ⟨w.heap.size + 2, 0, none⟩)) rfl (by kernel_rfl) (by kernel_rfl) (by kernel_rfl) (fun _ _ _ h => panic_put (fn := Tryd.f87) (d := 13) (v := .pointer (some ⟨w.heap.size + 2, 0, none⟩)) (by simp [results, Tryd.results87]) h) (Or.inl ⟨by rfl, by (intro w hSw; (try dsimp only at hSw); first | (go_simp; done) | (go_simp; with_reducible rfl) | (go_simp; omega) | (go_simp; simp [*]; done))⟩) (by assumption) ?_; try simp only [Act.put, List.setIfInBounds_toArray, List.set_cons_zero, List.set_cons_succ]
        refine wpAnyH_ready (rs := [2]) (by kernel_rfl) (by simp) ?_
        refine AllReadyH.cons (o := { dst := some 14, op := _, type := _, pos := _, after := _, guard := _ }) rfl (fun K hK => ?_) AllReadyH.nil
        go_simp
        go_at_call 146
        refine (HA.out _ hc.drew (by simpa using hM)).mono ?_
        intro e w1 h1
        obtain ⟨rfl, g1⟩ : _ ∧ _ := h1
        go_wp2_with fail
        have bb1 : Below w.heap.size w w1 := below_row2 hB.drew g1
        refine leaves_cons (f := 145) (args := #[.pointer (some ⟨w.heap.size, 0, none⟩), .pointer (some ⟨w.heap.size + 1, 0, none⟩)]) (by simp) (by simp [go_sem]) ?_
        refine (catch_panicking _ _ _ _ _ (kl.drew.grown g1 (by simp)) (ke.drew.grown g1 (by simp)) (by omega)).mono ?_
        rintro e u' w'' ⟨rfl, rfl, h1, h2, h3⟩
        have c1 := h1.at 0 _ rfl
        have c2 := h2.at 0 _ rfl
        simp only [Leaves, settle, mustR, List.dropWhile]
        exact ⟨.tuple #[.slice none 0 0, .int .i64 3], by simp [results, Tryd.results87, go_sem, c1, c2], _, rfl, Kd.R_nil _ _ _ _ _, bb1.trans (h3 _ (by omega) (by omega))⟩
      | some x =>
        obtain ⟨a, j⟩ := x
        simp only at hR
        obtain ⟨A0, cap0, rfl⟩ := Kd.R_slice hRow
        have hlen1 : (acc ++ [a]).length = acc.length + 1 := by simp
        obtain ⟨hij, hj, _⟩ : i < j ∧ j ≤ s.size ∧ _ := hAg
        have HS := Lib.hid (fun W hc => rskip_calls (w.heap.size + 2) s j W hc hj (by omega))
        have hk1 := span_ge blankB s j hj
        have hk2 := span_le blankB s j hj
        have HN := Lib.hid (fun W hc => rnext_cur (w.heap.size + 2) s (spanEnd blankB s j) W hc hk2 (by omega))
        generalize spanEnd blankB s j = k at *
        have hMd : wr.drew.cell? ⟨6, 0, none⟩ = some (.int .i64 m) := by simpa using hM
        go_wp2_with fail
        refine wp_region_held_drew (S := fun _ => True) (by kernel_rfl) trivial (fun hHeld => ?_)
        refine wpAnyH_take (i := 1) (oi := { dst := some 13, op := _, type := _, pos := _, after := _, guard := _ }) (v := .pointer (some ⟨w.heap.size + 2, 0, none⟩)) rfl (by kernel_rfl) (by kernel_rfl) (by kernel_rfl) (fun _ _ _ h => panic_put (fn := Tryd.f87) (d := 13) (v := .pointer (some ⟨w.heap.size + 2, 0, none⟩)) (by simp [results, Tryd.results87]) h) (Or.inl ⟨by rfl, by (intro w hSw; (try dsimp only at hSw); first | (go_simp; done) | (go_simp; with_reducible rfl) | (go_simp; omega) | (go_simp; simp [*]; done))⟩) (by assumption) ?_; try simp only [Act.put, List.setIfInBounds_toArray, List.set_cons_zero, List.set_cons_succ]
        refine wpAnyH_ready (rs := [0, 2]) (by kernel_rfl) (by simp) ?_
        refine AllReadyH.cons (o := { dst := some 12, op := _, type := _, pos := _, after := _, guard := _ }) rfl (fun K hK => ?_) (AllReadyH.cons (o := { dst := some 14, op := _, type := _, pos := _, after := _, guard := _ }) rfl (fun K hK => ?_) AllReadyH.nil)
        · go_simp
          refine hK.out _ _ trivial (fun hHeld => ?_)
          clear hK K
          refine wpAnyH_ready (rs := [2]) (by kernel_rfl) (by simp) ?_
          refine AllReadyH.cons (o := { dst := some 14, op := _, type := _, pos := _, after := _, guard := _ }) rfl (fun K hK => ?_) AllReadyH.nil
          go_simp
          go_at_call 146
          refine (HA.out _ hc.drew hMd).mono ?_
          intro e w1 h1
          obtain ⟨rfl, hc1, g1⟩ : _ ∧ _ ∧ _ := h1
          have bb1 : Below w.heap.size w w1 := below_row2 hB.drew g1
          have kl1 := kl.drew.grown g1 (by simp)
          have ke1 := ke.drew.grown g1 (by simp)
          have hRow1 := R_grownE (Kd.R_drew hRow) g1 (by omega)
          have z1 := g1.size
          have lt1 := hc1.lt
          have d1 := kl1.at 0 _ rfl
          simp only [Result.andThen]
          refine hK.out _ _ trivial (fun hHeld => ?_)
          clear hK K
          refine wpAnyH_ready (rs := [3]) (by kernel_rfl) (by simp) ?_
          refine AllReadyH.cons (o := { dst := some 15, op := _, type := _, pos := _, after := _, guard := _ }) rfl (fun K hK => ?_) AllReadyH.nil
          go_simp
          refine hK.out _ _ trivial (fun hHeld => ?_)
          clear hK K
          refine wpAnyH_ready (rs := [4]) (by kernel_rfl) (by simp) ?_
          refine AllReadyH.cons (o := { dst := some 16, op := _, type := _, pos := _, after := _, guard := _ }) rfl (fun K hK => ?_) AllReadyH.nil
          refine snoc_step rowAAddress (w.heap.size + 3) (by rfl) (.tmp 12) (.tmp 15) (by rfl) (.slice A0 acc.length cap0) acc a [.string a.loc, .string a.dom] (by rfl) (by rfl) rfl hRow1 (by omega) (by omega) ?_
          intro v2 w2 hRow2 hb2 hg2
          obtain ⟨A2, cap2, rfl⟩ := Kd.R_slice hRow2
          have kl2 := kl1.beside hRow1 hg2 (by omega)
          have ke2 := ke1.beside hRow1 hg2 (by omega)
          have hc2 := hc1.kept hg2 (fun he => by obtain ⟨inner, ho⟩ := Kd.R_own hRow1; have := own_base ho _ he.symm; omega)
          have bb2 : Below w.heap.size w w2 := bb1.trans (hb2.mono (by omega))
          have z2 := hb2.size
          have d2 := kl2.at 0 _ rfl
          have f2 := kl2.free 0 _ rfl
          refine hK.out _ _ trivial (fun hHeld => ?_)
          clear hK K
          refine wpAnyH_ready (rs := [5]) (by kernel_rfl) (by simp) ?_
          refine AllReadyH.cons (o := { dst := none, op := _, type := _, pos := _, after := _, guard := _ }) rfl (fun K hK => ?_) AllReadyH.nil
          go_simp
          refine hK.out _ _ trivial (fun hHeld => ?_)
          clear hK K
          refine wpAnyH_done (by kernel_rfl) ?_ _
          rw [hlen1] at hRow2
          have kl3 := kl2.set 0 (.slice A2 (acc.length + 1) cap2) (by simp)
          have ke3 := ke2.other (c := w.heap.size) (j := 0) (by omega) (.slice A2 (acc.length + 1) cap2)
          have hc3 := hc2.other (c := w.heap.size) (j := 0) (by omega) (.slice A2 (acc.length + 1) cap2)
          have hRow3 := R_elder hRow2 (p := ⟨w.heap.size, 0, none⟩) (by first | (simp; done) | (simp; omega) | omega) (.slice A2 (acc.length + 1) cap2)
          have bb3 := bb2.setCell (p := ⟨w.heap.size, 0, none⟩) (Nat.le_refl _) (.slice A2 (acc.length + 1) cap2)
          generalize w2.setCell ⟨w.heap.size, 0, none⟩ (.slice A2 (acc.length + 1) cap2) = w3 at *
          go_wp2_with fail
          refine (HS.out _ hc3).mono ?_
          rintro e w4 ⟨rfl, hc4, g4⟩
          have kl4 := kl3.grown g4 (by simp)
          have ke4 := ke3.grown g4 (by simp)
          have hRow4 := R_grownE hRow3 g4 (by omega)
          have bb4 : Below w.heap.size w w4 := below_row2 bb3 g4
          have hcc := hc4
          obtain ⟨c0, c1, f0, f1, lt⟩ := hcc
          by_cases hkl : k < s.size
          · rw [if_pos hkl] at hR
            have e1 : ((k : Int) == s.size) = false := by rw [beq_eq_false_iff_ne]; omega
            go_wp2_with fail
            go_quiet (fail)
            have hc5 := hc4.drawN nq
            have kl5 := kl4.drawN nq
            have ke5 := ke4.drawN nq
            have hRow5 := Kd.R_drewN hRow4 nq
            have bb5 := pw_below_drewN bb4 nq
            generalize w4.drewN nq = w5 at *
            clear c0 c1 f0 f1 lt hc4 kl4 ke4 hRow4 bb4 g4
            by_cases h44 : nx s k = 44
            · rw [if_pos ⟨h44, by omega⟩] at hR
              rw [h44] at HN
              clear h44
              have hR := Lib.hid hR
              go_wp2_with fail
              refine (HN.out _ hc5).mono ?_
              rintro e w6 ⟨rfl, hc6, g6⟩
              have kl6 := kl5.grown g6 (by simp)
              have ke6 := ke5.grown g6 (by simp)
              have hRow6 := R_grownE hRow5 g6 (by omega)
              have bb6 : Below w.heap.size w w6 := below_row2 bb5 g6
              have hc7 := hc6.setI ((k : Int) + 1) (k + 1) (by omega)
              obtain ⟨c0, c1, f0, f1, lt⟩ := hc6
              go_wp2_with fail
              refine (must_yes _).mono ?_
              rintro e w6' ⟨rfl, rfl⟩
              go_wp2_with fail
              go_roundw
              case rel =>
                refine ⟨k + 1, acc ++ [a], _, hkl, hc7, kl6.other (by first | (simp; done) | (simp; omega) | omega) _, ke6.other (by first | (simp; done) | (simp; omega) | omega) _, R_elder hRow6 (by first | (simp; done) | (simp; omega) | omega) _, ?_, by simp; omega, bb6.setCell (by first | (simp; done) | (simp; omega) | omega) _⟩
                rw [← hR.out]
                cases listP okAddr s (k + 1) <;> simp
              case measure => rw [hp2, hc7.place]; omega
            · rw [if_neg (fun h => h44 h.1)] at hR
              simp only [Option.map_none] at hR
              subst hR
              have e2 : (nx s k == 44) = false := by rw [beq_eq_false_iff_ne]; exact h44
              clear h44
              generalize nx s k = x at *
              go_wp2_with fail
              refine (HN.out _ hc5).mono ?_
              rintro e w6 ⟨rfl, hc6, g6⟩
              have kl6 := kl5.grown g6 (by simp)
              have ke6 := ke5.grown g6 (by simp)
              have bb6 : Below w.heap.size w w6 := below_row2 bb5 g6
              go_wp2_with fail
              refine (must_no _).mono ?_
              rintro e w6' ⟨rfl, rfl⟩
              go_wp2_with fail
              refine leaves_cons (f := 145) (args := #[.pointer (some ⟨w.heap.size, 0, none⟩), .pointer (some ⟨w.heap.size + 1, 0, none⟩)]) (by simp) (by simp [go_sem]) ?_
              refine (catch_panicking _ _ _ _ _ kl6 ke6 (by omega)).mono ?_
              rintro e u' w'' ⟨rfl, rfl, h1, h2, h3⟩
              have c1 := h1.at 0 _ rfl
              have c2 := h2.at 0 _ rfl
              simp only [Leaves, settle, mustR, List.dropWhile]
              exact ⟨.tuple #[.slice none 0 0, .int .i64 3], by simp [results, Tryd.results87, go_sem, c1, c2], _, rfl, Kd.R_nil _ _ _ _ _, bb6.trans (h3 _ (by omega) (by omega))⟩
          · rw [if_neg hkl] at hR
            simp only [Option.map_some] at hR
            subst hR
            obtain rfl : k = s.size := by omega
            go_wp2_with fail
            go_quiet (fail)
            have kl5 := kl4.drawN nq
            have ke5 := ke4.drawN nq
            have hRow5 := Kd.R_drewN hRow4 nq
            have bb5 := pw_below_drewN bb4 nq
            generalize w4.drewN nq = w5 at *
            clear c0 c1 f0 f1 lt hc4 kl4 ke4 hRow4 bb4 g4
            have d0 := kl5.at 0 _ rfl
            have d1 := ke5.at 0 _ rfl
            have d2 := kl5.free 0 _ rfl
            have d3 := ke5.free 0 _ rfl
            by_cases h20 : 20 < acc.length + 1
            · have h20' : (20 : Int) < (acc.length : Int) + 1 := by omega
              have hres : listRes (some (acc ++ [a])) = (5, []) := by rw [listRes, if_pos (by simp; omega)]
              generalize listRes (some (acc ++ [a])) = res at *
              subst hres
              go_wp2_with fail
              refine leaves_cons (f := 145) (args := #[.pointer (some ⟨w.heap.size, 0, none⟩), .pointer (some ⟨w.heap.size + 1, 0, none⟩)]) (by simp) (by simp [go_sem]) ?_
              refine (catch_idle _ _ _).mono ?_
              rintro e u' w'' ⟨rfl, rfl, rfl⟩
              simp only [Leaves, settle]
              exact ⟨.tuple #[.slice none 0 0, .int .i64 5], by simp [results, Tryd.results87, go_sem, *], _, rfl, Kd.R_nil _ _ _ _ _, by (iterate 2 (refine Below.setCell ?_ (by first | (simp; done) | (simp; omega) | omega) _)); exact bb5⟩
            · have h20' : ¬ (20 : Int) < (acc.length : Int) + 1 := by omega
              have hres : listRes (some (acc ++ [a])) = (0, acc ++ [a]) := by rw [listRes, if_neg (by simp; omega)]
              generalize listRes (some (acc ++ [a])) = res at *
              subst hres
              go_wp2_with fail
              refine leaves_cons (f := 145) (args := #[.pointer (some ⟨w.heap.size, 0, none⟩), .pointer (some ⟨w.heap.size + 1, 0, none⟩)]) (by simp) (by simp [go_sem]) ?_
              refine (catch_idle _ _ _).mono ?_
              rintro e u' w'' ⟨rfl, rfl, rfl⟩
              simp only [Leaves, settle]
              exact ⟨.tuple #[.slice A2 (acc.length + 1) cap2, .int .i64 0], by simp [results, Tryd.results87, go_sem, *], _, rfl, Kd.R_lower (R_elder (R_elder hRow5 (by first | (simp; done) | (simp; omega) | omega) _) (by first | (simp; done) | (simp; omega) | omega) _) (by omega), by (iterate 2 (refine Below.setCell ?_ (by first | (simp; done) | (simp; omega) | omega) _)); exact bb5⟩
        · go_simp
          go_at_call 146
          refine (HA.out _ hc.drew hMd).mono ?_
          intro e w1 h1
          obtain ⟨rfl, hc1, g1⟩ : _ ∧ _ ∧ _ := h1
          have bb1 : Below w.heap.size w w1 := below_row2 hB.drew g1
          have kl1 := kl.drew.grown g1 (by simp)
          have ke1 := ke.drew.grown g1 (by simp)
          have hRow1 := R_grownE (Kd.R_drew hRow) g1 (by omega)
          have z1 := g1.size
          have lt1 := hc1.lt
          have d1 := kl1.at 0 _ rfl
          simp only [Result.andThen]
          refine hK.out _ _ trivial (fun hHeld => ?_)
          clear hK K
          refine wpAnyH_ready (rs := [0, 3]) (by kernel_rfl) (by simp) ?_
          refine AllReadyH.cons (o := { dst := some 12, op := _, type := _, pos := _, after := _, guard := _ }) rfl (fun K hK => ?_) (AllReadyH.cons (o := { dst := some 15, op := _, type := _, pos := _, after := _, guard := _ }) rfl (fun K hK => ?_) AllReadyH.nil)
          · go_simp
            refine hK.out _ _ trivial (fun hHeld => ?_)
            clear hK K
            refine wpAnyH_ready (rs := [3]) (by kernel_rfl) (by simp) ?_
            refine AllReadyH.cons (o := { dst := some 15, op := _, type := _, pos := _, after := _, guard := _ }) rfl (fun K hK => ?_) AllReadyH.nil
            go_simp
            refine hK.out _ _ trivial (fun hHeld => ?_)
            clear hK K
            refine wpAnyH_ready (rs := [4]) (by kernel_rfl) (by simp) ?_
            refine AllReadyH.cons (o := { dst := some 16, op := _, type := _, pos := _, after := _, guard := _ }) rfl (fun K hK => ?_) AllReadyH.nil
            refine snoc_step rowAAddress (w.heap.size + 3) (by rfl) (.tmp 12) (.tmp 15) (by rfl) (.slice A0 acc.length cap0) acc a [.string a.loc, .string a.dom] (by rfl) (by rfl) rfl hRow1 (by omega) (by omega) ?_
            intro v2 w2 hRow2 hb2 hg2
            obtain ⟨A2, cap2, rfl⟩ := Kd.R_slice hRow2
            have kl2 := kl1.beside hRow1 hg2 (by omega)
            have ke2 := ke1.beside hRow1 hg2 (by omega)
            have hc2 := hc1.kept hg2 (fun he => by obtain ⟨inner, ho⟩ := Kd.R_own hRow1; have := own_base ho _ he.symm; omega)
            have bb2 : Below w.heap.size w w2 := bb1.trans (hb2.mono (by omega))
            have z2 := hb2.size
            have d2 := kl2.at 0 _ rfl
            have f2 := kl2.free 0 _ rfl
            refine hK.out _ _ trivial (fun hHeld => ?_)
            clear hK K
            refine wpAnyH_ready (rs := [5]) (by kernel_rfl) (by simp) ?_
            refine AllReadyH.cons (o := { dst := none, op := _, type := _, pos := _, after := _, guard := _ }) rfl (fun K hK => ?_) AllReadyH.nil
            go_simp
            refine hK.out _ _ trivial (fun hHeld => ?_)
            clear hK K
            refine wpAnyH_done (by kernel_rfl) ?_ _
            rw [hlen1] at hRow2
            have kl3 := kl2.set 0 (.slice A2 (acc.length + 1) cap2) (by simp)
            have ke3 := ke2.other (c := w.heap.size) (j := 0) (by omega) (.slice A2 (acc.length + 1) cap2)
            have hc3 := hc2.other (c := w.heap.size) (j := 0) (by omega) (.slice A2 (acc.length + 1) cap2)
            have hRow3 := R_elder hRow2 (p := ⟨w.heap.size, 0, none⟩) (by first | (simp; done) | (simp; omega) | omega) (.slice A2 (acc.length + 1) cap2)
            have bb3 := bb2.setCell (p := ⟨w.heap.size, 0, none⟩) (Nat.le_refl _) (.slice A2 (acc.length + 1) cap2)
            generalize w2.setCell ⟨w.heap.size, 0, none⟩ (.slice A2 (acc.length + 1) cap2) = w3 at *
            go_wp2_with fail
            refine (HS.out _ hc3).mono ?_
            rintro e w4 ⟨rfl, hc4, g4⟩
            have kl4 := kl3.grown g4 (by simp)
            have ke4 := ke3.grown g4 (by simp)
            have hRow4 := R_grownE hRow3 g4 (by omega)
            have bb4 : Below w.heap.size w w4 := below_row2 bb3 g4
            have hcc := hc4
            obtain ⟨c0, c1, f0, f1, lt⟩ := hcc
            by_cases hkl : k < s.size
            · rw [if_pos hkl] at hR
              have e1 : ((k : Int) == s.size) = false := by rw [beq_eq_false_iff_ne]; omega
              go_wp2_with fail
              go_quiet (fail)
              have hc5 := hc4.drawN nq
              have kl5 := kl4.drawN nq
              have ke5 := ke4.drawN nq
              have hRow5 := Kd.R_drewN hRow4 nq
              have bb5 := pw_below_drewN bb4 nq
              generalize w4.drewN nq = w5 at *
              clear c0 c1 f0 f1 lt hc4 kl4 ke4 hRow4 bb4 g4
              by_cases h44 : nx s k = 44
              · rw [if_pos ⟨h44, by omega⟩] at hR
                rw [h44] at HN
                clear h44
                have hR := Lib.hid hR
                go_wp2_with fail
                refine (HN.out _ hc5).mono ?_
                rintro e w6 ⟨rfl, hc6, g6⟩
                have kl6 := kl5.grown g6 (by simp)
                have ke6 := ke5.grown g6 (by simp)
                have hRow6 := R_grownE hRow5 g6 (by omega)
                have bb6 : Below w.heap.size w w6 := below_row2 bb5 g6
                have hc7 := hc6.setI ((k : Int) + 1) (k + 1) (by omega)
                obtain ⟨c0, c1, f0, f1, lt⟩ := hc6
                go_wp2_with fail
                refine (must_yes _).mono ?_
                rintro e w6' ⟨rfl, rfl⟩
                go_wp2_with fail
                go_roundw
                case rel =>
                  refine ⟨k + 1, acc ++ [a], _, hkl, hc7, kl6.other (by first | (simp; done) | (simp; omega) | omega) _, ke6.other (by first | (simp; done) | (simp; omega) | omega) _, R_elder hRow6 (by first | (simp; done) | (simp; omega) | omega) _, ?_, by simp; omega, bb6.setCell (by first | (simp; done) | (simp; omega) | omega) _⟩
                  rw [← hR.out]
                  cases listP okAddr s (k + 1) <;> simp
                case measure => rw [hp2, hc7.place]; omega
              · rw [if_neg (fun h => h44 h.1)] at hR
                simp only [Option.map_none] at hR
                subst hR
                have e2 : (nx s k == 44) = false := by rw [beq_eq_false_iff_ne]; exact h44
                clear h44
                generalize nx s k = x at *
                go_wp2_with fail
                refine (HN.out _ hc5).mono ?_
                rintro e w6 ⟨rfl, hc6, g6⟩
                have kl6 := kl5.grown g6 (by simp)
                have ke6 := ke5.grown g6 (by simp)
                have bb6 : Below w.heap.size w w6 := below_row2 bb5 g6
                go_wp2_with fail
                refine (must_no _).mono ?_
                rintro e w6' ⟨rfl, rfl⟩
                go_wp2_with fail
                refine leaves_cons (f := 145) (args := #[.pointer (some ⟨w.heap.size, 0, none⟩), .pointer (some ⟨w.heap.size + 1, 0, none⟩)]) (by simp) (by simp [go_sem]) ?_
                refine (catch_panicking _ _ _ _ _ kl6 ke6 (by omega)).mono ?_
                rintro e u' w'' ⟨rfl, rfl, h1, h2, h3⟩
                have c1 := h1.at 0 _ rfl
                have c2 := h2.at 0 _ rfl
                simp only [Leaves, settle, mustR, List.dropWhile]
                exact ⟨.tuple #[.slice none 0 0, .int .i64 3], by simp [results, Tryd.results87, go_sem, c1, c2], _, rfl, Kd.R_nil _ _ _ _ _, bb6.trans (h3 _ (by omega) (by omega))⟩
            · rw [if_neg hkl] at hR
              simp only [Option.map_some] at hR
              subst hR
              obtain rfl : k = s.size := by omega
              go_wp2_with fail
              go_quiet (fail)
              have kl5 := kl4.drawN nq
              have ke5 := ke4.drawN nq
              have hRow5 := Kd.R_drewN hRow4 nq
              have bb5 := pw_below_drewN bb4 nq
              generalize w4.drewN nq = w5 at *
              clear c0 c1 f0 f1 lt hc4 kl4 ke4 hRow4 bb4 g4
              have d0 := kl5.at 0 _ rfl
              have d1 := ke5.at 0 _ rfl
              have d2 := kl5.free 0 _ rfl
              have d3 := ke5.free 0 _ rfl
              by_cases h20 : 20 < acc.length + 1
              · have h20' : (20 : Int) < (acc.length : Int) + 1 := by omega
                have hres : listRes (some (acc ++ [a])) = (5, []) := by rw [listRes, if_pos (by simp; omega)]
                generalize listRes (some (acc ++ [a])) = res at *
                subst hres
                go_wp2_with fail
                refine leaves_cons (f := 145) (args := #[.pointer (some ⟨w.heap.size, 0, none⟩), .pointer (some ⟨w.heap.size + 1, 0, none⟩)]) (by simp) (by simp [go_sem]) ?_
                refine (catch_idle _ _ _).mono ?_
                rintro e u' w'' ⟨rfl, rfl, rfl⟩
                simp only [Leaves, settle]
                exact ⟨.tuple #[.slice none 0 0, .int .i64 5], by simp [results, Tryd.results87, go_sem, *], _, rfl, Kd.R_nil _ _ _ _ _, by (iterate 2 (refine Below.setCell ?_ (by first | (simp; done) | (simp; omega) | omega) _)); exact bb5⟩
              · have h20' : ¬ (20 : Int) < (acc.length : Int) + 1 := by omega
                have hres : listRes (some (acc ++ [a])) = (0, acc ++ [a]) := by rw [listRes, if_neg (by simp; omega)]
                generalize listRes (some (acc ++ [a])) = res at *
                subst hres
                go_wp2_with fail
                refine leaves_cons (f := 145) (args := #[.pointer (some ⟨w.heap.size, 0, none⟩), .pointer (some ⟨w.heap.size + 1, 0, none⟩)]) (by simp) (by simp [go_sem]) ?_
                refine (catch_idle _ _ _).mono ?_
                rintro e u' w'' ⟨rfl, rfl, rfl⟩
                simp only [Leaves, settle]
                exact ⟨.tuple #[.slice A2 (acc.length + 1) cap2, .int .i64 0], by simp [results, Tryd.results87, go_sem, *], _, rfl, Kd.R_lower (R_elder (R_elder hRow5 (by first | (simp; done) | (simp; omega) | omega) _) (by first | (simp; done) | (simp; omega) | omega) _) (by omega), by (iterate 2 (refine Below.setCell ?_ (by first | (simp; done) | (simp; omega) | omega) _)); exact bb5⟩
          · go_simp
            refine hK.out _ _ trivial (fun hHeld => ?_)
            clear hK K
            have d1 := (kl1.alloc (.cells #[.string a.loc, .string a.dom] 49)).at 0 _ rfl
            refine wpAnyH_ready (rs := [0]) (by kernel_rfl) (by simp) ?_
            refine AllReadyH.cons (o := { dst := some 12, op := _, type := _, pos := _, after := _, guard := _ }) rfl (fun K hK => ?_) AllReadyH.nil
            go_simp
            refine hK.out _ _ trivial (fun hHeld => ?_)
            clear hK K
            refine wpAnyH_ready (rs := [4]) (by kernel_rfl) (by simp) ?_
            refine AllReadyH.cons (o := { dst := some 16, op := _, type := _, pos := _, after := _, guard := _ }) rfl (fun K hK => ?_) AllReadyH.nil
            refine snoc_step rowAAddress (w.heap.size + 3) (by rfl) (.tmp 12) (.tmp 15) (by rfl) (.slice A0 acc.length cap0) acc a [.string a.loc, .string a.dom] (by rfl) (by rfl) rfl hRow1 (by omega) (by omega) ?_
            intro v2 w2 hRow2 hb2 hg2
            obtain ⟨A2, cap2, rfl⟩ := Kd.R_slice hRow2
            have kl2 := kl1.beside hRow1 hg2 (by omega)
            have ke2 := ke1.beside hRow1 hg2 (by omega)
            have hc2 := hc1.kept hg2 (fun he => by obtain ⟨inner, ho⟩ := Kd.R_own hRow1; have := own_base ho _ he.symm; omega)
            have bb2 : Below w.heap.size w w2 := bb1.trans (hb2.mono (by omega))
            have z2 := hb2.size
            have d2 := kl2.at 0 _ rfl
            have f2 := kl2.free 0 _ rfl
            refine hK.out _ _ trivial (fun hHeld => ?_)
            clear hK K
            refine wpAnyH_ready (rs := [5]) (by kernel_rfl) (by simp) ?_
            refine AllReadyH.cons (o := { dst := none, op := _, type := _, pos := _, after := _, guard := _ }) rfl (fun K hK => ?_) AllReadyH.nil
            go_simp
            refine hK.out _ _ trivial (fun hHeld => ?_)
            clear hK K
            refine wpAnyH_done (by kernel_rfl) ?_ _
            rw [hlen1] at hRow2
            have kl3 := kl2.set 0 (.slice A2 (acc.length + 1) cap2) (by simp)
            have ke3 := ke2.other (c := w.heap.size) (j := 0) (by omega) (.slice A2 (acc.length + 1) cap2)
            have hc3 := hc2.other (c := w.heap.size) (j := 0) (by omega) (.slice A2 (acc.length + 1) cap2)
            have hRow3 := R_elder hRow2 (p := ⟨w.heap.size, 0, none⟩) (by first | (simp; done) | (simp; omega) | omega) (.slice A2 (acc.length + 1) cap2)
            have bb3 := bb2.setCell (p := ⟨w.heap.size, 0, none⟩) (Nat.le_refl _) (.slice A2 (acc.length + 1) cap2)
            generalize w2.setCell ⟨w.heap.size, 0, none⟩ (.slice A2 (acc.length + 1) cap2) = w3 at *
            go_wp2_with fail
            refine (HS.out _ hc3).mono ?_
            rintro e w4 ⟨rfl, hc4, g4⟩
            have kl4 := kl3.grown g4 (by simp)
            have ke4 := ke3.grown g4 (by simp)
            have hRow4 := R_grownE hRow3 g4 (by omega)
            have bb4 : Below w.heap.size w w4 := below_row2 bb3 g4
            have hcc := hc4
            obtain ⟨c0, c1, f0, f1, lt⟩ := hcc
            by_cases hkl : k < s.size
            · rw [if_pos hkl] at hR
              have e1 : ((k : Int) == s.size) = false := by rw [beq_eq_false_iff_ne]; omega
              go_wp2_with fail
              go_quiet (fail)
              have hc5 := hc4.drawN nq
              have kl5 := kl4.drawN nq
              have ke5 := ke4.drawN nq
              have hRow5 := Kd.R_drewN hRow4 nq
              have bb5 := pw_below_drewN bb4 nq
              generalize w4.drewN nq = w5 at *
              clear c0 c1 f0 f1 lt hc4 kl4 ke4 hRow4 bb4 g4
              by_cases h44 : nx s k = 44
              · rw [if_pos ⟨h44, by omega⟩] at hR
                rw [h44] at HN
                clear h44
                have hR := Lib.hid hR
                go_wp2_with fail
                refine (HN.out _ hc5).mono ?_
                rintro e w6 ⟨rfl, hc6, g6⟩
                have kl6 := kl5.grown g6 (by simp)
                have ke6 := ke5.grown g6 (by simp)
                have hRow6 := R_grownE hRow5 g6 (by omega)
                have bb6 : Below w.heap.size w w6 := below_row2 bb5 g6
                have hc7 := hc6.setI ((k : Int) + 1) (k + 1) (by omega)
                obtain ⟨c0, c1, f0, f1, lt⟩ := hc6
                go_wp2_with fail
                refine (must_yes _).mono ?_
                rintro e w6' ⟨rfl, rfl⟩
                go_wp2_with fail
                go_roundw
                case rel =>
                  refine ⟨k + 1, acc ++ [a], _, hkl, hc7, kl6.other (by first | (simp; done) | (simp; omega) | omega) _, ke6.other (by first | (simp; done) | (simp; omega) | omega) _, R_elder hRow6 (by first | (simp; done) | (simp; omega) | omega) _, ?_, by simp; omega, bb6.setCell (by first | (simp; done) | (simp; omega) | omega) _⟩
                  rw [← hR.out]
                  cases listP okAddr s (k + 1) <;> simp
                case measure => rw [hp2, hc7.place]; omega
              · rw [if_neg (fun h => h44 h.1)] at hR
                simp only [Option.map_none] at hR
                subst hR
                have e2 : (nx s k == 44) = false := by rw [beq_eq_false_iff_ne]; exact h44
                clear h44
                generalize nx s k = x at *
                go_wp2_with fail
                refine (HN.out _ hc5).mono ?_
                rintro e w6 ⟨rfl, hc6, g6⟩
                have kl6 := kl5.grown g6 (by simp)
                have ke6 := ke5.grown g6 (by simp)
                have bb6 : Below w.heap.size w w6 := below_row2 bb5 g6
                go_wp2_with fail
                refine (must_no _).mono ?_
                rintro e w6' ⟨rfl, rfl⟩
                go_wp2_with fail
                refine leaves_cons (f := 145) (args := #[.pointer (some ⟨w.heap.size, 0, none⟩), .pointer (some ⟨w.heap.size + 1, 0, none⟩)]) (by simp) (by simp [go_sem]) ?_
                refine (catch_panicking _ _ _ _ _ kl6 ke6 (by omega)).mono ?_
                rintro e u' w'' ⟨rfl, rfl, h1, h2, h3⟩
                have c1 := h1.at 0 _ rfl
                have c2 := h2.at 0 _ rfl
                simp only [Leaves, settle, mustR, List.dropWhile]
                exact ⟨.tuple #[.slice none 0 0, .int .i64 3], by simp [results, Tryd.results87, go_sem, c1, c2], _, rfl, Kd.R_nil _ _ _ _ _, bb6.trans (h3 _ (by omega) (by omega))⟩
            · rw [if_neg hkl] at hR
              simp only [Option.map_some] at hR
              subst hR
              obtain rfl : k = s.size := by omega
              go_wp2_with fail
              go_quiet (fail)
              have kl5 := kl4.drawN nq
              have ke5 := ke4.drawN nq
              have hRow5 := Kd.R_drewN hRow4 nq
              have bb5 := pw_below_drewN bb4 nq
              generalize w4.drewN nq = w5 at *
              clear c0 c1 f0 f1 lt hc4 kl4 ke4 hRow4 bb4 g4
              have d0 := kl5.at 0 _ rfl
              have d1 := ke5.at 0 _ rfl
              have d2 := kl5.free 0 _ rfl
              have d3 := ke5.free 0 _ rfl
              by_cases h20 : 20 < acc.length + 1
              · have h20' : (20 : Int) < (acc.length : Int) + 1 := by omega
                have hres : listRes (some (acc ++ [a])) = (5, []) := by rw [listRes, if_pos (by simp; omega)]
                generalize listRes (some (acc ++ [a])) = res at *
                subst hres
                go_wp2_with fail
                refine leaves_cons (f := 145) (args := #[.pointer (some ⟨w.heap.size, 0, none⟩), .pointer (some ⟨w.heap.size + 1, 0, none⟩)]) (by simp) (by simp [go_sem]) ?_
                refine (catch_idle _ _ _).mono ?_
                rintro e u' w'' ⟨rfl, rfl, rfl⟩
                simp only [Leaves, settle]
                exact ⟨.tuple #[.slice none 0 0, .int .i64 5], by simp [results, Tryd.results87, go_sem, *], _, rfl, Kd.R_nil _ _ _ _ _, by (iterate 2 (refine Below.setCell ?_ (by first | (simp; done) | (simp; omega) | omega) _)); exact bb5⟩
              · have h20' : ¬ (20 : Int) < (acc.length : Int) + 1 := by omega
                have hres : listRes (some (acc ++ [a])) = (0, acc ++ [a]) := by rw [listRes, if_neg (by simp; omega)]
                generalize listRes (some (acc ++ [a])) = res at *
                subst hres
                go_wp2_with fail
                refine leaves_cons (f := 145) (args := #[.pointer (some ⟨w.heap.size, 0, none⟩), .pointer (some ⟨w.heap.size + 1, 0, none⟩)]) (by simp) (by simp [go_sem]) ?_
                refine (catch_idle _ _ _).mono ?_
                rintro e u' w'' ⟨rfl, rfl, rfl⟩
                simp only [Leaves, settle]
                exact ⟨.tuple #[.slice A2 (acc.length + 1) cap2, .int .i64 0], by simp [results, Tryd.results87, go_sem, *], _, rfl, Kd.R_lower (R_elder (R_elder hRow5 (by first | (simp; done) | (simp; omega) | omega) _) (by first | (simp; done) | (simp; omega) | omega) _) (by omega), by (iterate 2 (refine Below.setCell ?_ (by first | (simp; done) | (simp; omega) | omega) _)); exact bb5⟩
end Go.Proofs.YtijdghplfhfpaaaDoor.H

/- who.Part and the reference's PartOf: the walks. -/
namespace Go.Proofs.YtijdghplfhfpaaaDoor.H
open Go.RowKit Go.Proofs.YtijdghplfhfpaaaDoorW.PrintWords Go.Proofs.YtijdghplfhfpaaaDoorW.PrintLast Go.Proofs.YtijdghplfhfpaaaDoor.U
set_option linter.unusedVariables false
set_option linter.unusedSimpArgs false
def partE (k f : Int) : Int := if f = 0 then if 1 ≤ k ∧ k ≤ 3 then 0 else 2 else f
def partV (k f : Int) (a b : ByteArray) : ByteArray := if f = 0 then if k = 1 then a ++ ⟨#[64]⟩ ++ b else if k = 2 then a else if k = 3 then b else ⟨#[]⟩ else ⟨#[]⟩
set_option maxHeartbeats 1000000 in
set_option maxRecDepth 100000 in
theorem part_calls (k : Int) (a b : ByteArray) (m : Int) (w : World) (ha : a.size ≤ 1048576) (hb : b.size ≤ 1048576) (hm : w.cell? ⟨6, 0, none⟩ = some (.int .i64 m)) (hg : 6 < w.heap.size) :
    Calls Tryd.prog 195 #[.int .i64 k, .agg #[.string a, .string b]] w fun e w' => e = .returned (.tuple #[.string (partV k (addrFault a b) a b), .int .i64 (partE k (addrFault a b))]) ∧ Below w.heap.size w w' := by
  have HC := Lib.hid (fun w hm hg => check_calls a b m w ha hb hm hg)
  generalize addrFault a b = f at *
  rcases (by omega : f ≠ 0 ∨ (f = 0 ∧ k = 1) ∨ (f = 0 ∧ k = 2) ∨ (f = 0 ∧ k = 3) ∨ (f = 0 ∧ (k < 1 ∨ 3 < k))) with h | ⟨h, h1⟩ | ⟨h, h1⟩ | ⟨h, h1⟩ | ⟨h, h1⟩
  · have ev : partV k f a b = ⟨#[]⟩ := by simp [partV, *]
    have ee : partE k f = f := by first | (simp [partE, *]; done) | (simp [partE]; omega)
    rw [ev, ee]
    clear ev ee
    have q : (f == 0) = false := by simpa using h
    go_enter Tryd.func195, Tryd.ntmps195
    go_wp2_with fail
    refine (HC.out _ (cell_below (B := w.heap.size) (by repeat (first | exact Below.refl _ _ | apply below_alloc | apply pw_below_drewN | apply below_drew1 | (refine Below.setCell ?_ (by first | (simp; done) | (simp; omega) | omega) _) )) hm hg) (by first | (simp; done) | (simp; omega) | omega)).mono ?_
    rintro e w1 ⟨rfl, hb1⟩
    obtain ⟨hc_w1, hf_w1⟩ := bcell hb1
    have s_ := hb1.size
    (try simp at s_)
    (first | (have : w.heap.size < w1.heap.size := by omega) | skip)
    have : w.heap.size ≤ w1.heap.size := by omega
    clear s_
    go_wp2_with fail
    refine bodyPost_ret (v := .tuple #[.string ⟨#[]⟩, .int .i64 f]) (by simp [results, Tryd.results195, go_sem, *]) rfl ⟨rfl, (by repeat (first | exact Below.refl _ _ | apply below_alloc | apply pw_below_drewN | apply below_drew1 | (refine Below.setCell ?_ (by first | (simp; done) | (simp; omega) | omega) _) | (refine below_then ?_ (by first | (simp; done) | (simp; omega) | omega) hb1)))⟩
  · have ev : partV k f a b = a ++ ⟨#[64]⟩ ++ b := by simp [partV, *]
    have ee : partE k f = 0 := by first | (simp [partE, *]; done) | (simp [partE]; omega)
    rw [ev, ee]
    clear ev ee
    subst h h1
    go_enter Tryd.func195, Tryd.ntmps195
    go_wp2_with fail
    refine (HC.out _ (cell_below (B := w.heap.size) (by repeat (first | exact Below.refl _ _ | apply below_alloc | apply pw_below_drewN | apply below_drew1 | (refine Below.setCell ?_ (by first | (simp; done) | (simp; omega) | omega) _) )) hm hg) (by first | (simp; done) | (simp; omega) | omega)).mono ?_
    rintro e w1 ⟨rfl, hb1⟩
    obtain ⟨hc_w1, hf_w1⟩ := bcell hb1
    have s_ := hb1.size
    (try simp at s_)
    (first | (have : w.heap.size < w1.heap.size := by omega) | skip)
    have : w.heap.size ≤ w1.heap.size := by omega
    clear s_
    go_wp2_with fail
    refine bodyPost_ret (v := .tuple #[.string (a ++ ⟨#[64]⟩ ++ b), .int .i64 0]) (by simp [results, Tryd.results195, go_sem, *]) rfl ⟨rfl, (by repeat (first | exact Below.refl _ _ | apply below_alloc | apply pw_below_drewN | apply below_drew1 | (refine Below.setCell ?_ (by first | (simp; done) | (simp; omega) | omega) _) | (refine below_then ?_ (by first | (simp; done) | (simp; omega) | omega) hb1)))⟩
  · have ev : partV k f a b = a := by simp [partV, *]
    have ee : partE k f = 0 := by first | (simp [partE, *]; done) | (simp [partE]; omega)
    rw [ev, ee]
    clear ev ee
    subst h h1
    go_enter Tryd.func195, Tryd.ntmps195
    go_wp2_with fail
    refine (HC.out _ (cell_below (B := w.heap.size) (by repeat (first | exact Below.refl _ _ | apply below_alloc | apply pw_below_drewN | apply below_drew1 | (refine Below.setCell ?_ (by first | (simp; done) | (simp; omega) | omega) _) )) hm hg) (by first | (simp; done) | (simp; omega) | omega)).mono ?_
    rintro e w1 ⟨rfl, hb1⟩
    obtain ⟨hc_w1, hf_w1⟩ := bcell hb1
    have s_ := hb1.size
    (try simp at s_)
    (first | (have : w.heap.size < w1.heap.size := by omega) | skip)
    have : w.heap.size ≤ w1.heap.size := by omega
    clear s_
    go_wp2_with fail
    refine bodyPost_ret (v := .tuple #[.string a, .int .i64 0]) (by simp [results, Tryd.results195, go_sem, *]) rfl ⟨rfl, (by repeat (first | exact Below.refl _ _ | apply below_alloc | apply pw_below_drewN | apply below_drew1 | (refine Below.setCell ?_ (by first | (simp; done) | (simp; omega) | omega) _) | (refine below_then ?_ (by first | (simp; done) | (simp; omega) | omega) hb1)))⟩
  · have ev : partV k f a b = b := by simp [partV, *]
    have ee : partE k f = 0 := by first | (simp [partE, *]; done) | (simp [partE]; omega)
    rw [ev, ee]
    clear ev ee
    subst h h1
    go_enter Tryd.func195, Tryd.ntmps195
    go_wp2_with fail
    refine (HC.out _ (cell_below (B := w.heap.size) (by repeat (first | exact Below.refl _ _ | apply below_alloc | apply pw_below_drewN | apply below_drew1 | (refine Below.setCell ?_ (by first | (simp; done) | (simp; omega) | omega) _) )) hm hg) (by first | (simp; done) | (simp; omega) | omega)).mono ?_
    rintro e w1 ⟨rfl, hb1⟩
    obtain ⟨hc_w1, hf_w1⟩ := bcell hb1
    have s_ := hb1.size
    (try simp at s_)
    (first | (have : w.heap.size < w1.heap.size := by omega) | skip)
    have : w.heap.size ≤ w1.heap.size := by omega
    clear s_
    go_wp2_with fail
    refine bodyPost_ret (v := .tuple #[.string b, .int .i64 0]) (by simp [results, Tryd.results195, go_sem, *]) rfl ⟨rfl, (by repeat (first | exact Below.refl _ _ | apply below_alloc | apply pw_below_drewN | apply below_drew1 | (refine Below.setCell ?_ (by first | (simp; done) | (simp; omega) | omega) _) | (refine below_then ?_ (by first | (simp; done) | (simp; omega) | omega) hb1)))⟩
  · have k1 : k ≠ 1 := by omega
    have k2 : k ≠ 2 := by omega
    have k3 : k ≠ 3 := by omega
    have ev : partV k f a b = ⟨#[]⟩ := by simp [partV, *]
    have ee : partE k f = 2 := by first | (simp [partE, *]; done) | (simp [partE]; omega)
    rw [ev, ee]
    clear ev ee
    subst h
    go_enter Tryd.func195, Tryd.ntmps195
    go_wp2_with fail
    refine (HC.out _ (cell_below (B := w.heap.size) (by repeat (first | exact Below.refl _ _ | apply below_alloc | apply pw_below_drewN | apply below_drew1 | (refine Below.setCell ?_ (by first | (simp; done) | (simp; omega) | omega) _) )) hm hg) (by first | (simp; done) | (simp; omega) | omega)).mono ?_
    rintro e w1 ⟨rfl, hb1⟩
    obtain ⟨hc_w1, hf_w1⟩ := bcell hb1
    have s_ := hb1.size
    (try simp at s_)
    (first | (have : w.heap.size < w1.heap.size := by omega) | skip)
    have : w.heap.size ≤ w1.heap.size := by omega
    clear s_
    go_wp2_with fail
    refine bodyPost_ret (v := .tuple #[.string ⟨#[]⟩, .int .i64 2]) (by simp [results, Tryd.results195, go_sem, *]) rfl ⟨rfl, (by repeat (first | exact Below.refl _ _ | apply below_alloc | apply pw_below_drewN | apply below_drew1 | (refine Below.setCell ?_ (by first | (simp; done) | (simp; omega) | omega) _) | (refine below_then ?_ (by first | (simp; done) | (simp; omega) | omega) hb1)))⟩
end Go.Proofs.YtijdghplfhfpaaaDoor.H

/- Lines: an address in < and >: the walks. -/
namespace Go.Proofs.YtijdghplfhfpaaaDoor.H
open Go.RowKit Go.Proofs.YtijdghplfhfpaaaDoorW.PrintWords Go.Proofs.YtijdghplfhfpaaaDoorW.PrintLast Go.Proofs.YtijdghplfhfpaaaDoor.U
set_option linter.unusedVariables false
set_option linter.unusedSimpArgs false
/-- An address is handed back, and whether there is one. -/
def PostAng (w : World) (o : Option AAddress) (e : Ending) (w' : World) : Prop :=
  ∃ x : AAddress, e = .returned (.tuple #[.agg #[.string x.loc, .string x.dom], .bool o.isSome]) ∧ (∀ a, o = some a → x = a) ∧ Below w.heap.size w w'
theorem postAng_no {w w' : World} {e : Ending} (x : AAddress) (h : e = .returned (.tuple #[.agg #[.string x.loc, .string x.dom], .bool false])) (hb : Below w.heap.size w w') : PostAng w none e w' := ⟨x, h, fun _ h => (nomatch h), hb⟩
theorem postAng_yes {w w' : World} {e : Ending} {a : AAddress} (h : e = .returned (.tuple #[.agg #[.string a.loc, .string a.dom], .bool true])) (hb : Below w.heap.size w w') : PostAng w (some a) e w' := ⟨a, h, fun _ h => Option.some.inj h, hb⟩
theorem angV_none_of {s : ByteArray} (h : ∀ a, listP okAddr s 0 ≠ some [a]) : angV s = none := by
  cases hq : angV s with
  | none => rfl
  | some a => exact absurd ((ang_law s a).mp hq).1 (h a)
theorem angV_of {s : ByteArray} {a : AAddress} (h : listP okAddr s 0 = some [a]) : angV s = if s.data.toList = angT a.loc a.dom then some a else none := by
  split
  · rename_i h2; exact (ang_law s a).mpr ⟨h, h2⟩
  · rename_i h2
    cases hq : angV s with
    | none => rfl
    | some b =>
      obtain ⟨h3, h4⟩ := (ang_law s b).mp hq
      rw [h] at h3
      cases h3
      exact absurd h4 h2
theorem addrFault_size {a b : ByteArray} (h : addrFault a b = 0) : a.size + b.size ≤ 99 := by
  unfold addrFault at h
  split at h
  · split at h
    · cases h
    · omega
  · cases h
theorem ang_beq (s a b : ByteArray) : (s.toList == ((⟨#[60]⟩ : ByteArray) ++ (a ++ ⟨#[64]⟩ ++ b) ++ ⟨#[62]⟩).toList) = decide (s.data.toList = angT a b) := by
  rw [ByteArray.toList_eq, ByteArray.toList_eq]
  have : ((⟨#[60]⟩ : ByteArray) ++ (a ++ ⟨#[64]⟩ ++ b) ++ ⟨#[62]⟩).data.toList = angT a b := by simp [angT]
  rw [this]
  by_cases h : s.data.toList = angT a b <;> simp [h]
set_option maxHeartbeats 1000000 in
set_option maxRecDepth 100000 in
theorem address_calls (s : ByteArray) (m : Int) (w : World) (hs : s.size ≤ 2000) (hm : w.cell? ⟨6, 0, none⟩ = some (.int .i64 m)) (hg : 6 < w.heap.size) :
    Calls Tryd.prog 155 #[.string s] w (PostAng w (angV s)) := by
  have HL := list_calls s m
  have hv : listV s = listRes (listP okAddr s 0) := by rw [listV, if_neg (by omega)]
  rw [hv] at HL
  clear hv
  have HL := Lib.hid (fun w hm hg => HL w (by omega) hm hg)
  cases hl : listP okAddr s 0 with
  | none =>
    rw [angV_none_of (by rw [hl]; intro a h; cases h)]
    rw [hl] at HL
    simp only [listRes] at HL
    skip
    go_enter Tryd.func155, Tryd.ntmps155
    go_wp2_with fail
    obtain ⟨W, hW⟩ : ∃ W : World, W = w.alloc (.cells #[.string ⟨#[]⟩, .string ⟨#[]⟩] 49) := ⟨_, rfl⟩
    have ha : Blk W w.heap.size [.string ⟨#[]⟩, .string ⟨#[]⟩] := by rw [hW]; exact Blk.made _ _ _
    have hb0 : Below w.heap.size w W := by rw [hW]; exact (by repeat (first | exact Below.refl _ _ | apply below_alloc | apply pw_below_drewN | apply below_drew1 | (refine Below.setCell ?_ (by first | (simp; done) | (simp; omega) | omega) _) ))
    have hz0 : W.heap.size = w.heap.size + 1 := by rw [hW]; simp
    rw [← hW]
    replace hW := Lib.hid hW
    refine (HL.out _ (cell_below hb0 hm hg) (by omega)).mono ?_
    rintro e w1 ⟨v1, rfl, hR1, hb1⟩
    have a0 := (ha.below hb1 (by omega)).at 0 _ rfl
    have a1 := (ha.below hb1 (by omega)).at 1 _ rfl
    have f0 := (ha.below hb1 (by omega)).free 0 _ rfl
    have f1 := (ha.below hb1 (by omega)).free 1 _ rfl
    have az : w.heap.size < w1.heap.size := by have := hb1.size; omega
    have hB1 : Below w.heap.size w w1 := hb0.trans (hb1.mono (by omega))
    clear hR1
    go_wp2_with fail
    refine bodyPost_ret (v := .tuple #[.agg #[.string ⟨#[]⟩, .string ⟨#[]⟩], .bool false]) (by simp [results, Tryd.results155, go_sem, *]) rfl (postAng_no ⟨⟨#[]⟩, ⟨#[]⟩⟩ rfl (by repeat (first | exact Below.refl _ _ | apply below_alloc | apply pw_below_drewN | apply below_drew1 | (refine Below.setCell ?_ (by first | (simp; done) | (simp; omega) | omega) _) | (refine Below.trans ?_ (Below.mono hB1 (by first | (simp; done) | (simp; omega) | omega))))))
  | some l =>
    rw [hl] at HL
    simp only [listRes] at HL
    by_cases h20 : 20 < l.length
    · rw [if_pos h20] at HL
      rw [angV_none_of (by rw [hl]; intro a h; cases h; simp at h20)]
      skip
      go_enter Tryd.func155, Tryd.ntmps155
      go_wp2_with fail
      obtain ⟨W, hW⟩ : ∃ W : World, W = w.alloc (.cells #[.string ⟨#[]⟩, .string ⟨#[]⟩] 49) := ⟨_, rfl⟩
      have ha : Blk W w.heap.size [.string ⟨#[]⟩, .string ⟨#[]⟩] := by rw [hW]; exact Blk.made _ _ _
      have hb0 : Below w.heap.size w W := by rw [hW]; exact (by repeat (first | exact Below.refl _ _ | apply below_alloc | apply pw_below_drewN | apply below_drew1 | (refine Below.setCell ?_ (by first | (simp; done) | (simp; omega) | omega) _) ))
      have hz0 : W.heap.size = w.heap.size + 1 := by rw [hW]; simp
      rw [← hW]
      replace hW := Lib.hid hW
      refine (HL.out _ (cell_below hb0 hm hg) (by omega)).mono ?_
      rintro e w1 ⟨v1, rfl, hR1, hb1⟩
      have a0 := (ha.below hb1 (by omega)).at 0 _ rfl
      have a1 := (ha.below hb1 (by omega)).at 1 _ rfl
      have f0 := (ha.below hb1 (by omega)).free 0 _ rfl
      have f1 := (ha.below hb1 (by omega)).free 1 _ rfl
      have az : w.heap.size < w1.heap.size := by have := hb1.size; omega
      have hB1 : Below w.heap.size w w1 := hb0.trans (hb1.mono (by omega))
      clear hR1
      go_wp2_with fail
      refine bodyPost_ret (v := .tuple #[.agg #[.string ⟨#[]⟩, .string ⟨#[]⟩], .bool false]) (by simp [results, Tryd.results155, go_sem, *]) rfl (postAng_no ⟨⟨#[]⟩, ⟨#[]⟩⟩ rfl (by repeat (first | exact Below.refl _ _ | apply below_alloc | apply pw_below_drewN | apply below_drew1 | (refine Below.setCell ?_ (by first | (simp; done) | (simp; omega) | omega) _) | (refine Below.trans ?_ (Below.mono hB1 (by first | (simp; done) | (simp; omega) | omega))))))
    · rw [if_neg h20] at HL
      by_cases h1 : l.length = 1
      · obtain ⟨a, rfl⟩ : ∃ a, l = [a] := by
          cases l with
          | nil => simp at h1
          | cons a r => cases r with
            | nil => exact ⟨a, rfl⟩
            | cons b r => simp at h1
        have hok := list_one_ok hl
        have hf : addrFault a.loc a.dom = 0 := by simpa [okAddr] using hok
        have hsz := addrFault_size hf
        have HP := fun w hm hg => part_calls 1 a.loc a.dom m w (by omega) (by omega) hm hg
        rw [hf, show partV 1 0 a.loc a.dom = a.loc ++ ⟨#[64]⟩ ++ a.dom by simp [partV]] at HP
        rw [angV_of hl]
        have hbq := ang_beq s a.loc a.dom
        have hsz2 : (a.loc ++ ⟨#[64]⟩ ++ a.dom).size ≤ 1000 := by
          have : (⟨#[64]⟩ : ByteArray).size = 1 := rfl
          simp; omega
        generalize (a.loc ++ ⟨#[64]⟩ ++ a.dom) = X at *
        generalize partE 1 0 = E at *
        replace HP := Lib.hid HP
        clear h20 h1 hok hf
        by_cases hD : s.data.toList = angT a.loc a.dom
        · rw [if_pos hD]
          rw [decide_eq_true hD] at hbq
          clear hD hl
          skip
          skip
          go_enter Tryd.func155, Tryd.ntmps155
          go_wp2_with fail
          obtain ⟨W, hW⟩ : ∃ W : World, W = w.alloc (.cells #[.string ⟨#[]⟩, .string ⟨#[]⟩] 49) := ⟨_, rfl⟩
          have ha : Blk W w.heap.size [.string ⟨#[]⟩, .string ⟨#[]⟩] := by rw [hW]; exact Blk.made _ _ _
          have hb0 : Below w.heap.size w W := by rw [hW]; exact (by repeat (first | exact Below.refl _ _ | apply below_alloc | apply pw_below_drewN | apply below_drew1 | (refine Below.setCell ?_ (by first | (simp; done) | (simp; omega) | omega) _) ))
          have hz0 : W.heap.size = w.heap.size + 1 := by rw [hW]; simp
          rw [← hW]
          replace hW := Lib.hid hW
          refine (HL.out _ (cell_below hb0 hm hg) (by omega)).mono ?_
          rintro e w1 ⟨v1, rfl, hR1, hb1⟩
          have a0 := (ha.below hb1 (by omega)).at 0 _ rfl
          have a1 := (ha.below hb1 (by omega)).at 1 _ rfl
          have f0 := (ha.below hb1 (by omega)).free 0 _ rfl
          have f1 := (ha.below hb1 (by omega)).free 1 _ rfl
          have az : w.heap.size < w1.heap.size := by have := hb1.size; omega
          have hB1 : Below w.heap.size w w1 := hb0.trans (hb1.mono (by omega))
          obtain ⟨A1, c1, rfl, hc1, hC1⟩ := C_of hR1
          have hC1 : Kd.C kAAddress w1 A1 1 [a] := hC1
          obtain ⟨ad, e1, hx0, hxj⟩ := flat_at hC1 0 (by simp)
          subst e1
          have ez : ad.add (0 * 2) = ad := by simp [Addr.add]
          simp only [List.getElem_cons_zero, ez] at hx0 hxj
          have q0 := hx0 _ rfl; have q1 := hxj 1 _ (by decide) rfl
          clear hx0 hxj hR1
          replace ez := Lib.hid ez
          have h1 : ([a] : List AAddress).length = 1 := rfl
          go_wp2_with fail
          refine (HP.out _ (cell_below hB1 hm hg) (by omega)).mono ?_
          rintro e w2 ⟨rfl, hb2⟩
          have hB2 : Below w.heap.size w w2 := hB1.trans (hb2.mono (by omega))
          have a0 := ((ha.below hb1 (by omega)).below hb2 (by omega)).at 0 _ rfl
          have a1 := ((ha.below hb1 (by omega)).below hb2 (by omega)).at 1 _ rfl
          have f0 := ((ha.below hb1 (by omega)).below hb2 (by omega)).free 0 _ rfl
          have f1 := ((ha.below hb1 (by omega)).below hb2 (by omega)).free 1 _ rfl
          have az : w.heap.size < w2.heap.size := by have := hb2.size; omega
          obtain ⟨ad2, e2, hx0, hxj⟩ := flat_at (Kd.C_below hC1 hb2) 0 (by simp)
          obtain rfl : ad2 = ad := by simpa using e2.symm
          simp only [List.getElem_cons_zero, ez.out] at hx0 hxj
          have r0 := hx0 _ rfl; have r1 := hxj 1 _ (by decide) rfl
          clear hx0 hxj e2
          go_wp2_with fail
          refine bodyPost_ret (v := .tuple #[.agg #[.string a.loc, .string a.dom], .bool true]) (by simp [results, Tryd.results155, go_sem, *]) rfl (postAng_yes rfl (by repeat (first | exact Below.refl _ _ | apply below_alloc | apply pw_below_drewN | apply below_drew1 | (refine Below.setCell ?_ (by first | (simp; done) | (simp; omega) | omega) _) | (refine Below.trans ?_ (Below.mono hB2 (by first | (simp; done) | (simp; omega) | omega))))))
        · rw [if_neg hD]
          rw [decide_eq_false hD] at hbq
          clear hD hl
          skip
          skip
          go_enter Tryd.func155, Tryd.ntmps155
          go_wp2_with fail
          obtain ⟨W, hW⟩ : ∃ W : World, W = w.alloc (.cells #[.string ⟨#[]⟩, .string ⟨#[]⟩] 49) := ⟨_, rfl⟩
          have ha : Blk W w.heap.size [.string ⟨#[]⟩, .string ⟨#[]⟩] := by rw [hW]; exact Blk.made _ _ _
          have hb0 : Below w.heap.size w W := by rw [hW]; exact (by repeat (first | exact Below.refl _ _ | apply below_alloc | apply pw_below_drewN | apply below_drew1 | (refine Below.setCell ?_ (by first | (simp; done) | (simp; omega) | omega) _) ))
          have hz0 : W.heap.size = w.heap.size + 1 := by rw [hW]; simp
          rw [← hW]
          replace hW := Lib.hid hW
          refine (HL.out _ (cell_below hb0 hm hg) (by omega)).mono ?_
          rintro e w1 ⟨v1, rfl, hR1, hb1⟩
          have a0 := (ha.below hb1 (by omega)).at 0 _ rfl
          have a1 := (ha.below hb1 (by omega)).at 1 _ rfl
          have f0 := (ha.below hb1 (by omega)).free 0 _ rfl
          have f1 := (ha.below hb1 (by omega)).free 1 _ rfl
          have az : w.heap.size < w1.heap.size := by have := hb1.size; omega
          have hB1 : Below w.heap.size w w1 := hb0.trans (hb1.mono (by omega))
          obtain ⟨A1, c1, rfl, hc1, hC1⟩ := C_of hR1
          have hC1 : Kd.C kAAddress w1 A1 1 [a] := hC1
          obtain ⟨ad, e1, hx0, hxj⟩ := flat_at hC1 0 (by simp)
          subst e1
          have ez : ad.add (0 * 2) = ad := by simp [Addr.add]
          simp only [List.getElem_cons_zero, ez] at hx0 hxj
          have q0 := hx0 _ rfl; have q1 := hxj 1 _ (by decide) rfl
          clear hx0 hxj hR1
          replace ez := Lib.hid ez
          have h1 : ([a] : List AAddress).length = 1 := rfl
          go_wp2_with fail
          refine (HP.out _ (cell_below hB1 hm hg) (by omega)).mono ?_
          rintro e w2 ⟨rfl, hb2⟩
          have hB2 : Below w.heap.size w w2 := hB1.trans (hb2.mono (by omega))
          have a0 := ((ha.below hb1 (by omega)).below hb2 (by omega)).at 0 _ rfl
          have a1 := ((ha.below hb1 (by omega)).below hb2 (by omega)).at 1 _ rfl
          have f0 := ((ha.below hb1 (by omega)).below hb2 (by omega)).free 0 _ rfl
          have f1 := ((ha.below hb1 (by omega)).below hb2 (by omega)).free 1 _ rfl
          have az : w.heap.size < w2.heap.size := by have := hb2.size; omega
          obtain ⟨ad2, e2, hx0, hxj⟩ := flat_at (Kd.C_below hC1 hb2) 0 (by simp)
          obtain rfl : ad2 = ad := by simpa using e2.symm
          simp only [List.getElem_cons_zero, ez.out] at hx0 hxj
          have r0 := hx0 _ rfl; have r1 := hxj 1 _ (by decide) rfl
          clear hx0 hxj e2
          go_wp2_with fail
          refine bodyPost_ret (v := .tuple #[.agg #[.string a.loc, .string a.dom], .bool false]) (by simp [results, Tryd.results155, go_sem, *]) rfl (postAng_no a rfl (by repeat (first | exact Below.refl _ _ | apply below_alloc | apply pw_below_drewN | apply below_drew1 | (refine Below.setCell ?_ (by first | (simp; done) | (simp; omega) | omega) _) | (refine Below.trans ?_ (Below.mono hB2 (by first | (simp; done) | (simp; omega) | omega))))))
      · rw [angV_none_of (by rw [hl]; intro a h; cases h; simp at h1)]
        have i1 : ¬ (l.length : Int) = 1 := by omega
        skip
        go_enter Tryd.func155, Tryd.ntmps155
        go_wp2_with fail
        obtain ⟨W, hW⟩ : ∃ W : World, W = w.alloc (.cells #[.string ⟨#[]⟩, .string ⟨#[]⟩] 49) := ⟨_, rfl⟩
        have ha : Blk W w.heap.size [.string ⟨#[]⟩, .string ⟨#[]⟩] := by rw [hW]; exact Blk.made _ _ _
        have hb0 : Below w.heap.size w W := by rw [hW]; exact (by repeat (first | exact Below.refl _ _ | apply below_alloc | apply pw_below_drewN | apply below_drew1 | (refine Below.setCell ?_ (by first | (simp; done) | (simp; omega) | omega) _) ))
        have hz0 : W.heap.size = w.heap.size + 1 := by rw [hW]; simp
        rw [← hW]
        replace hW := Lib.hid hW
        refine (HL.out _ (cell_below hb0 hm hg) (by omega)).mono ?_
        rintro e w1 ⟨v1, rfl, hR1, hb1⟩
        have a0 := (ha.below hb1 (by omega)).at 0 _ rfl
        have a1 := (ha.below hb1 (by omega)).at 1 _ rfl
        have f0 := (ha.below hb1 (by omega)).free 0 _ rfl
        have f1 := (ha.below hb1 (by omega)).free 1 _ rfl
        have az : w.heap.size < w1.heap.size := by have := hb1.size; omega
        have hB1 : Below w.heap.size w w1 := hb0.trans (hb1.mono (by omega))
        obtain ⟨A1, c1, rfl, hc1, hC1⟩ := C_of hR1
        clear hR1
        go_wp2_with fail
        refine bodyPost_ret (v := .tuple #[.agg #[.string ⟨#[]⟩, .string ⟨#[]⟩], .bool false]) (by simp [results, Tryd.results155, go_sem, *]) rfl (postAng_no ⟨⟨#[]⟩, ⟨#[]⟩⟩ rfl (by repeat (first | exact Below.refl _ _ | apply below_alloc | apply pw_below_drewN | apply below_drew1 | (refine Below.setCell ?_ (by first | (simp; done) | (simp; omega) | omega) _) | (refine Below.trans ?_ (Below.mono hB1 (by first | (simp; done) | (simp; omega) | omega))))))
end Go.Proofs.YtijdghplfhfpaaaDoor.H

/- Lines: the reference's address in < and >. -/
namespace Go.Proofs.YtijdghplfhfpaaaDoor.H
open Go.RowKit Go.Proofs.YtijdghplfhfpaaaDoorW.PrintWords Go.Proofs.YtijdghplfhfpaaaDoorW.PrintLast Go.Proofs.YtijdghplfhfpaaaDoor.U
set_option linter.unusedVariables false
set_option linter.unusedSimpArgs false
set_option maxHeartbeats 1000000 in
set_option maxRecDepth 100000 in
theorem angled_calls (s : ByteArray) (w : World) (hs : s.size ≤ 2000) :
    Calls Tryd.prog 107 #[.string s] w (PostAng w (angV s)) := by
  by_cases h2 : 2 ≤ s.size
  · have e0 : nx s 0 = s[0].toNat := nx_in (by omega)
    have e9 : nx s (s.size - 1) = (s[s.size - 1]'(by omega)).toNat := nx_in (by omega)
    have i0 : ¬ (s.size : Int) < 2 := by omega
    have i1 : (0 : Int) < s.size := by omega
    have i2 : 0 ≤ (s.size : Int) - 1 := by omega
    have i3 : (s.size : Int) - 1 < s.size := by omega
    by_cases h3 : s[0].toNat = 60
    · by_cases h4 : (s[s.size - 1]'(by omega)).toNat = 62
      · rw [angV, if_pos ⟨h2, by omega, by omega⟩]
        clear e0 e9
        have tz : (s.extract 1 (s.size - 1)).size ≤ 2000 := by simp; omega
        go_enter Tryd.func107, Tryd.ntmps107
        go_wp2_with fail
        generalize s.extract 1 (s.size - 1) = t at *
        generalize hR : angGo t 0 = R
        obtain ⟨W, hW⟩ : ∃ W : World, W = w.alloc (.cells #[.string ⟨#[]⟩, .string ⟨#[]⟩] 49) := ⟨_, rfl⟩
        have ha : Blk W w.heap.size [.string ⟨#[]⟩, .string ⟨#[]⟩] := by rw [hW]; exact Blk.made _ _ _
        have hb0 : Below w.heap.size w W := by rw [hW]; exact (by repeat (first | exact Below.refl _ _ | apply below_alloc | apply pw_below_drewN | apply below_drew1 | (refine Below.setCell ?_ (by first | (simp; done) | (simp; omega) | omega) _) ))
        have hz0 : W.heap.size = w.heap.size + 1 := by rw [hW]; simp
        rw [← hW]
        replace hW := Lib.hid hW
        go_loopw [5] (fun i wr => ∃ k : Nat, k ≤ t.size ∧ i = .int .i64 k ∧ angGo t k = R ∧ wr = W) (fun i _ => t.size - (intOf i).toNat)
        case atStart => exact ⟨0, Nat.zero_le _, rfl, hR, rfl⟩
        case round =>
          obtain ⟨k, hk, rfl, hR, rfl⟩ := hrel
          have tz1 : t.size ≤ 2000 := tz
          by_cases hlt : k < t.size
          · rw [angGo, dif_pos hlt] at hR
            have j1 : (0 : Int) ≤ k := by omega
            have j2 : (k : Int) < t.size := by omega
            by_cases h6 : t[k].toNat = 64
            · rw [if_pos h6] at hR
              have HF := fun w => addressFault_calls (t.extract 0 k) (t.extract (k + 1) t.size) w (by simp; omega) (by simp; omega)
              generalize addrFault (t.extract 0 k) (t.extract (k + 1) t.size) = F at *
              replace HF := Lib.hid HF
              replace hR := Lib.hid hR
              have j3 : (k : Int) + 1 ≤ t.size := by omega
              have j4 : (k : Int) + 1 ≤ 9223372036854775807 := by omega
              go_wp2_with fail
              go_region
              go_wp2_with fail
              obtain ⟨W2, hW2⟩ : ∃ W2 : World, W2 = (wr.alloc (.cells #[.string (t.extract 0 k), .string (t.extract (k + 1) t.size)] 49)).drew := ⟨_, rfl⟩
              have hx : Blk W2 (w.heap.size + 1) [.string (t.extract 0 k), .string (t.extract (k + 1) t.size)] := by rw [hW2]; exact (Blk.made_at _ _ _ hz0).drew
              have hy : Blk W2 w.heap.size [.string ⟨#[]⟩, .string ⟨#[]⟩] := by rw [hW2]; exact (ha.alloc _).drew
              have hbw : Below w.heap.size w W2 := by rw [hW2]; exact (by repeat (first | exact Below.refl _ _ | apply below_alloc | apply pw_below_drewN | apply below_drew1 | (refine Below.setCell ?_ (by first | (simp; done) | (simp; omega) | omega) _) | (refine Below.trans ?_ (Below.mono hb0 (by first | (simp; done) | (simp; omega) | omega)))))
              have hz2 : w.heap.size + 1 < W2.heap.size := hx.lt
              rw [← hW2]
              replace hW2 := Lib.hid hW2
              clear hz0 hb0 ha
              have x0 := hx.at 0 _ rfl
              have x1 := hx.at 1 _ rfl
              go_region_held3 (fun w' => w'.cell? ⟨w.heap.size + 1, 0, none⟩ = some (.string (t.extract 0 k)) ∧ w'.cell? ⟨w.heap.size + 1, 1, none⟩ = some (.string (t.extract (k + 1) t.size)))
                (first | exact ⟨y0, y1⟩ | go_keep)
                (first | (go_at_call 104; refine (HF.out _).mono ?_; rintro e w3 ⟨rfl, hb3⟩; have y0 := (hx.drew.below hb3 (by simp; omega)).at 0 _ rfl; have y1 := (hx.drew.below hb3 (by simp; omega)).at 1 _ rfl; have a0 := (hy.drew.below hb3 (by simp; omega)).at 0 _ rfl; have a1 := (hy.drew.below hb3 (by simp; omega)).at 1 _ rfl; have f0 := (hy.drew.below hb3 (by simp; omega)).free 0 _ rfl; have f1 := (hy.drew.below hb3 (by simp; omega)).free 1 _ rfl; have az : w.heap.size < w3.heap.size := (by have := hb3.size; simp at this; omega); have hB3 : Below w.heap.size w w3 := hbw.trans ((below_drew1 (Below.refl _ _)).trans (hb3.mono (by simp; omega)))))
              all_goals go_wp2_with fail
              have hB4 : Below w.heap.size w ((w3.setCell ⟨w.heap.size, 0, none⟩ (.string (t.extract 0 k))).setCell ⟨w.heap.size, 1, none⟩ (.string (t.extract (k + 1) t.size))) := (by repeat (first | exact Below.refl _ _ | apply below_alloc | apply pw_below_drewN | apply below_drew1 | (refine Below.setCell ?_ (by first | (simp; done) | (simp; omega) | omega) _) | (refine Below.trans ?_ (Below.mono hB3 (by first | (simp; done) | (simp; omega) | omega)))))
              refine bodyPost_ret (v := .tuple #[.agg #[.string (t.extract 0 k), .string (t.extract (k + 1) t.size)], .bool (F == 0)]) (by simp [results, Tryd.results107, go_sem, *]) rfl (by
                have h9 := hR.out
                by_cases hF : F = 0
                · rw [if_pos hF] at h9
                  rw [← h9]
                  exact postAng_yes (by rw [hF]; rfl) hB4
                · rw [if_neg hF] at h9
                  rw [← h9]
                  exact postAng_no ⟨t.extract 0 k, t.extract (k + 1) t.size⟩ (by rw [beq_eq_false_iff_ne.mpr hF]) hB4)
            · rw [if_neg h6] at hR
              go_wp2_with fail
              go_roundw
              case rel => exact ⟨k + 1, hlt, by go_num, hR, by trivial⟩
              case measure => simp [intOf]; omega
          · rw [angGo, dif_neg hlt] at hR
            subst hR
            have j1 : ¬ (k : Int) < t.size := by omega
            have a0 := ha.at 0 _ rfl
            have a1 := ha.at 1 _ rfl
            have f0 := ha.free 0 _ rfl
            have f1 := ha.free 1 _ rfl
            have az := ha.lt
            go_wp2_with fail
            refine bodyPost_ret (v := .tuple #[.agg #[.string ⟨#[]⟩, .string ⟨#[]⟩], .bool false]) (by simp [results, Tryd.results107, go_sem, *]) rfl (postAng_no ⟨⟨#[]⟩, ⟨#[]⟩⟩ rfl (by repeat (first | exact Below.refl _ _ | apply below_alloc | apply pw_below_drewN | apply below_drew1 | (refine Below.setCell ?_ (by first | (simp; done) | (simp; omega) | omega) _) | (refine Below.trans ?_ (Below.mono hb0 (by first | (simp; done) | (simp; omega) | omega))))))
      · rw [angV, if_neg (by omega)]
        clear e0 e9
        go_enter Tryd.func107, Tryd.ntmps107
        go_wp2_with fail
        refine bodyPost_ret (v := .tuple #[.agg #[.string ⟨#[]⟩, .string ⟨#[]⟩], .bool false]) (by simp [results, Tryd.results107, go_sem, *]) rfl (postAng_no ⟨⟨#[]⟩, ⟨#[]⟩⟩ rfl (by repeat (first | exact Below.refl _ _ | apply below_alloc | apply pw_below_drewN | apply below_drew1 | (refine Below.setCell ?_ (by first | (simp; done) | (simp; omega) | omega) _) )))
    · rw [angV, if_neg (by omega)]
      clear e0 e9
      go_enter Tryd.func107, Tryd.ntmps107
      go_wp2_with fail
      refine bodyPost_ret (v := .tuple #[.agg #[.string ⟨#[]⟩, .string ⟨#[]⟩], .bool false]) (by simp [results, Tryd.results107, go_sem, *]) rfl (postAng_no ⟨⟨#[]⟩, ⟨#[]⟩⟩ rfl (by repeat (first | exact Below.refl _ _ | apply below_alloc | apply pw_below_drewN | apply below_drew1 | (refine Below.setCell ?_ (by first | (simp; done) | (simp; omega) | omega) _) )))
  · rw [angV, if_neg (by omega)]
    have i0 : (s.size : Int) < 2 := by omega
    go_enter Tryd.func107, Tryd.ntmps107
    go_wp2_with fail
    refine bodyPost_ret (v := .tuple #[.agg #[.string ⟨#[]⟩, .string ⟨#[]⟩], .bool false]) (by simp [results, Tryd.results107, go_sem, *]) rfl (postAng_no ⟨⟨#[]⟩, ⟨#[]⟩⟩ rfl (by repeat (first | exact Below.refl _ _ | apply below_alloc | apply pw_below_drewN | apply below_drew1 | (refine Below.setCell ?_ (by first | (simp; done) | (simp; omega) | omega) _) )))
end Go.Proofs.YtijdghplfhfpaaaDoor.H

/- Sessions: the walks of sessions, lmtp.Check and the reference's SessionFault. -/
namespace Go.Proofs.YtijdghplfhfpaaaDoor.H
open Go.RowKit Go.Proofs.YtijdghplfhfpaaaDoorW.PrintWords Go.Proofs.YtijdghplfhfpaaaDoorW.PrintLast Go.Proofs.YtijdghplfhfpaaaDoor.U
set_option linter.unusedVariables false
set_option linter.unusedSimpArgs false
attribute [local go_sem high] eqAAddress eqbAAddress_self
set_option maxHeartbeats 1000000 in
set_option maxRecDepth 100000 in
theorem sessions_calls (st : Int) (fl fd : ByteArray) (A : Option Addr) (c : Nat) (l : List AAddress) (tx : ByteArray) (lg : Bool) (w : World) (hr : Kd.C kAAddress w A l.length l) (hl : l.length * 32 ≤ 140737488355328) :
    Calls Tryd.prog 28 #[.agg #[.int .i64 st, .string fl, .string fd, .slice A l.length c, .string tx, .bool lg]] w fun e w' => ∃ v : Value, e = .returned (.agg #[.int .i64 st, .string fl, .string fd, v, .string tx, .bool lg]) ∧ Kd.R kAAddress 49 w' w.heap.size (fun _ => True) v l ∧ Below w.heap.size w w' := by
  go_enter Tryd.func28, Tryd.ntmps28
  go_wp2_with (at_builtin; refine clone_list rowAAddress rfl _ _ rfl l A c rfl rfl (Kd.C_below hr (by repeat (first | exact Below.refl _ _ | apply below_alloc | apply pw_below_drewN | apply below_drew1))) (by omega) ?_; intro A1 c1 w1 hR hb1; obtain ⟨hc, hf⟩ := bcell hb1; have hz : w.heap.size + 1 < w1.heap.size := (by have := hb1.size; simp at this; omega); have : w1.cell? ⟨w.heap.size, 0, none⟩ = some (.int .i64 st) := (by rw [hc _ _ (by first | (simp; done) | (simp; omega))]; first | (simp; done) | (simp [*]; done) | assumption | (simp [go_sem, *]; done)); have : w1.frozen? ⟨w.heap.size, 0, none⟩ = false := (by rw [hf _ _ (by first | (simp; done) | (simp; omega))]; first | (simp; done) | (simp [*]; done) | assumption | (simp [go_sem, *]; done)); have : w1.cell? ⟨w.heap.size, 1, none⟩ = some (.string fl) := (by rw [hc _ _ (by first | (simp; done) | (simp; omega))]; first | (simp; done) | (simp [*]; done) | assumption | (simp [go_sem, *]; done)); have : w1.frozen? ⟨w.heap.size, 1, none⟩ = false := (by rw [hf _ _ (by first | (simp; done) | (simp; omega))]; first | (simp; done) | (simp [*]; done) | assumption | (simp [go_sem, *]; done)); have : w1.cell? ⟨w.heap.size, 2, none⟩ = some (.string fd) := (by rw [hc _ _ (by first | (simp; done) | (simp; omega))]; first | (simp; done) | (simp [*]; done) | assumption | (simp [go_sem, *]; done)); have : w1.frozen? ⟨w.heap.size, 2, none⟩ = false := (by rw [hf _ _ (by first | (simp; done) | (simp; omega))]; first | (simp; done) | (simp [*]; done) | assumption | (simp [go_sem, *]; done)); have : w1.cell? ⟨w.heap.size, 3, none⟩ = some (.slice A l.length c) := (by rw [hc _ _ (by first | (simp; done) | (simp; omega))]; first | (simp; done) | (simp [*]; done) | assumption | (simp [go_sem, *]; done)); have : w1.frozen? ⟨w.heap.size, 3, none⟩ = false := (by rw [hf _ _ (by first | (simp; done) | (simp; omega))]; first | (simp; done) | (simp [*]; done) | assumption | (simp [go_sem, *]; done)); have : w1.cell? ⟨w.heap.size, 4, none⟩ = some (.string tx) := (by rw [hc _ _ (by first | (simp; done) | (simp; omega))]; first | (simp; done) | (simp [*]; done) | assumption | (simp [go_sem, *]; done)); have : w1.frozen? ⟨w.heap.size, 4, none⟩ = false := (by rw [hf _ _ (by first | (simp; done) | (simp; omega))]; first | (simp; done) | (simp [*]; done) | assumption | (simp [go_sem, *]; done)); have : w1.cell? ⟨w.heap.size, 5, none⟩ = some (.bool lg) := (by rw [hc _ _ (by first | (simp; done) | (simp; omega))]; first | (simp; done) | (simp [*]; done) | assumption | (simp [go_sem, *]; done)); have : w1.frozen? ⟨w.heap.size, 5, none⟩ = false := (by rw [hf _ _ (by first | (simp; done) | (simp; omega))]; first | (simp; done) | (simp [*]; done) | assumption | (simp [go_sem, *]; done)); have : w1.cell? ⟨w.heap.size + 1, 0, none⟩ = some (.int .i64 0) := (by rw [hc _ _ (by first | (simp; done) | (simp; omega))]; first | (simp; done) | (simp [*]; done) | assumption | (simp [go_sem, *]; done)); have : w1.frozen? ⟨w.heap.size + 1, 0, none⟩ = false := (by rw [hf _ _ (by first | (simp; done) | (simp; omega))]; first | (simp; done) | (simp [*]; done) | assumption | (simp [go_sem, *]; done)); have : w1.cell? ⟨w.heap.size + 1, 1, none⟩ = some (.string ⟨#[]⟩) := (by rw [hc _ _ (by first | (simp; done) | (simp; omega))]; first | (simp; done) | (simp [*]; done) | assumption | (simp [go_sem, *]; done)); have : w1.frozen? ⟨w.heap.size + 1, 1, none⟩ = false := (by rw [hf _ _ (by first | (simp; done) | (simp; omega))]; first | (simp; done) | (simp [*]; done) | assumption | (simp [go_sem, *]; done)); have : w1.cell? ⟨w.heap.size + 1, 2, none⟩ = some (.string ⟨#[]⟩) := (by rw [hc _ _ (by first | (simp; done) | (simp; omega))]; first | (simp; done) | (simp [*]; done) | assumption | (simp [go_sem, *]; done)); have : w1.frozen? ⟨w.heap.size + 1, 2, none⟩ = false := (by rw [hf _ _ (by first | (simp; done) | (simp; omega))]; first | (simp; done) | (simp [*]; done) | assumption | (simp [go_sem, *]; done)); have : w1.cell? ⟨w.heap.size + 1, 3, none⟩ = some (.slice none 0 0) := (by rw [hc _ _ (by first | (simp; done) | (simp; omega))]; first | (simp; done) | (simp [*]; done) | assumption | (simp [go_sem, *]; done)); have : w1.frozen? ⟨w.heap.size + 1, 3, none⟩ = false := (by rw [hf _ _ (by first | (simp; done) | (simp; omega))]; first | (simp; done) | (simp [*]; done) | assumption | (simp [go_sem, *]; done)); have : w1.cell? ⟨w.heap.size + 1, 4, none⟩ = some (.string ⟨#[]⟩) := (by rw [hc _ _ (by first | (simp; done) | (simp; omega))]; first | (simp; done) | (simp [*]; done) | assumption | (simp [go_sem, *]; done)); have : w1.frozen? ⟨w.heap.size + 1, 4, none⟩ = false := (by rw [hf _ _ (by first | (simp; done) | (simp; omega))]; first | (simp; done) | (simp [*]; done) | assumption | (simp [go_sem, *]; done)); have : w1.cell? ⟨w.heap.size + 1, 5, none⟩ = some (.bool false) := (by rw [hc _ _ (by first | (simp; done) | (simp; omega))]; first | (simp; done) | (simp [*]; done) | assumption | (simp [go_sem, *]; done)); have : w1.frozen? ⟨w.heap.size + 1, 5, none⟩ = false := (by rw [hf _ _ (by first | (simp; done) | (simp; omega))]; first | (simp; done) | (simp [*]; done) | assumption | (simp [go_sem, *]; done)); clear hc hf)
  go_wp2
  refine bodyPost_ret (v := .agg #[.int .i64 st, .string fl, .string fd, .slice A1 l.length c1, .string tx, .bool lg]) (by simp [results, Tryd.results28, go_sem, *]) rfl ⟨_, rfl, ?_, ?_⟩
  · exact Kd.R_lower (R_elder (R_elder (R_elder (R_elder (R_elder (R_elder (R_elder hR (by simp; omega) _) (by simp) _) (by simp) _) (by simp) _) (by simp) _) (by simp) _) (by simp) _) (by simp; omega)
  · iterate 7 (refine Below.setCell ?_ (by first | (simp; done) | (simp; omega) | omega) _)
    exact (by repeat (first | exact Below.refl _ _ | apply below_alloc | apply pw_below_drewN | apply below_drew1 | (refine Below.setCell ?_ (by first | (simp; done) | (simp; omega) | omega) _) | (refine below_then ?_ (by first | (simp; done) | (simp; omega) | omega) hb1)))
def emptyA : AAddress := ⟨⟨#[]⟩, ⟨#[]⟩⟩
/-- All may be, and none comes twice. -/
def goodAddrs (l : List AAddress) : Prop := ∀ k (hk : k < l.length), addrFault l[k].loc l[k].dom = 0 ∧ hasA (l.take k) l[k] = false
/-- May a session be? -/
def sessMay (st : Int) (fr : AAddress) (l : List AAddress) (tx : ByteArray) (lg : Bool) : Prop :=
  0 ≤ st ∧ st ≤ 5 ∧ l.length ≤ 5 ∧ tx.size ≤ 2000 ∧ (if 2 ≤ st ∧ st ≤ 4 then addrFault fr.loc fr.dom = 0 else fr = emptyA) ∧ (if 3 ≤ st ∧ st ≤ 4 then 0 < l.length ∧ goodAddrs l else l.length = 0) ∧ (st = 4 ∨ (tx.size = 0 ∧ lg = false))
noncomputable def sessFault (st : Int) (fr : AAddress) (l : List AAddress) (tx : ByteArray) (lg : Bool) : Int := open Classical in if sessMay st fr l tx lg then 0 else 11
theorem sess_yes {st : Int} {fr : AAddress} {l : List AAddress} {tx : ByteArray} {lg : Bool} (h : sessMay st fr l tx lg) : sessFault st fr l tx lg = 0 := if_pos h
theorem sess_no {st : Int} {fr : AAddress} {l : List AAddress} {tx : ByteArray} {lg : Bool} (h : ¬ sessMay st fr l tx lg) : sessFault st fr l tx lg = 11 := if_neg h
end Go.Proofs.YtijdghplfhfpaaaDoor.H

/- Lines: a session that goes on: its block, and what stands behind a MAIL line. -/
namespace Go.Proofs.YtijdghplfhfpaaaDoor.H
open Go.RowKit Go.Proofs.YtijdghplfhfpaaaDoorW.PrintWords Go.Proofs.YtijdghplfhfpaaaDoorW.PrintLast Go.Proofs.YtijdghplfhfpaaaDoor.U
set_option linter.unusedVariables false
set_option linter.unusedSimpArgs false
/-- A session. -/
structure Ses where
  st : Int
  fr : AAddress
  to_ : List AAddress
  tx : ByteArray
  lg : Bool
/-- What lies above block b is as it was. -/
def Above (b : Nat) (w w' : World) : Prop := ∀ i, b < i → i < w.heap.size → w'.heap[i]? = w.heap[i]?
theorem above_grown {w w' : World} {b : Nat} (h : w.grownBy w' (some b)) : Above b w w' := fun i hi hl => h.block i hl (fun he => by have := Option.some.inj he; omega)
theorem above_trans {w w1 w2 : World} {b : Nat} (h : Above b w w1) (hz : w.heap.size ≤ w1.heap.size) (k : Above b w1 w2) : Above b w w2 := fun i hi hl => (k i hi (by omega)).trans (h i hi hl)
theorem above_set {w : World} {b c j : Nat} (h : c ≤ b) (v : Value) : Above b w (w.setCell ⟨c, j, none⟩ v) := fun i hi _ => Below.heap_setCell w ⟨c, j, none⟩ v i (by show i ≠ c; omega)
/-- A list of addresses that lies above block b. -/
def ToR (w : World) (b : Nat) (A : Option Addr) (l : List AAddress) : Prop := ∀ w', Above b w w' → Kd.C kAAddress w' A l.length l
theorem ToR.now {w : World} {b : Nat} {A : Option Addr} {l : List AAddress} (h : ToR w b A l) : Kd.C kAAddress w A l.length l := h w (fun _ _ _ => rfl)
theorem ToR.grown {w w1 : World} {b : Nat} {A : Option Addr} {l : List AAddress} (h : ToR w b A l) (hg : w.grownBy w1 (some b)) : ToR w1 b A l := fun w2 h2 => h w2 (above_trans (above_grown hg) hg.size h2)
theorem ToR.set {w : World} {b c j : Nat} {A : Option Addr} {l : List AAddress} (h : ToR w b A l) (hc : c ≤ b) (v : Value) : ToR (w.setCell ⟨c, j, none⟩ v) b A l := fun w2 h2 => h w2 (above_trans (above_set hc v) (by simp) h2)
theorem toR_of {w : World} {base b : Nat} {A : Option Addr} {n c : Nat} {l : List AAddress} (h : Kd.R kAAddress 49 w base (fun _ => True) (.slice A n c) l) (hb : b < base) : ToR w b A l := by
  intro w' hg
  obtain ⟨rfl, _, h3⟩ := Kd.R_reads' (Kd.R_step (Kd.R_bound h) (w1 := w') (fun k hk hl => hg k (by have := hk.2.1; omega) hl))
  exact h3
/-- Block b holds a session. -/
def SesAt (w : World) (b : Nat) (s : Ses) : Prop :=
  ∃ A c, Blk w b [.int .i64 s.st, .string s.fr.loc, .string s.fr.dom, .slice A s.to_.length c, .string s.tx, .bool s.lg] ∧ s.to_.length ≤ c ∧ ToR w b A s.to_
theorem SesAt.below {w w1 : World} {b B : Nat} {s : Ses} (h : SesAt w b s) (hb : Below B w w1) (hB : b < B) (hw : w.heap.size ≤ B) : SesAt w1 b s := by
  obtain ⟨A, c, h1, h2, h3⟩ := h
  exact ⟨A, c, h1.below hb hB, h2, h3.grown (grown_more (World.grownBy.refl _ _) hb hw)⟩
/-- A session goes on, and a code is told. -/
def PostSes (w : World) (b : Nat) (r : Ses × Int) (e : Ending) (w' : World) : Prop := e = .returned (.int .i64 r.2) ∧ SesAt w' b r.1 ∧ w.grownBy w' (some b)
theorem grownA {w w1 : World} {row : Option Nat} (h : w.grownBy w1 row) (o : Obj) : w.grownBy (w1.alloc o) row := grown_more h (Below.alloc (Below.refl _ _) (Nat.le_refl _) o) h.size
theorem PostSes.same {w w1 : World} {b : Nat} {s : Ses} {k : Int} {e : Ending} (he : e = .returned (.int .i64 k)) (h : SesAt w b s) (hb : Below w.heap.size w w1) : PostSes w b (s, k) e w1 :=
  ⟨he, h.below hb (by obtain ⟨_, _, h1, _⟩ := h; exact h1.lt) (Nat.le_refl _), grown_more (World.grownBy.refl _ _) hb (Nat.le_refl _)⟩
def mailV (s : Ses) (t : ByteArray) : Ses × Int :=
  if s.st = 1 then (match angV t with | some a => ({ s with st := 2, fr := a }, 250) | none => (s, 501)) else (s, 503)
set_option maxHeartbeats 1000000 in
set_option maxRecDepth 100000 in
theorem mail_calls (b : Nat) (s : Ses) (t : ByteArray) (m : Int) (w : World) (hs : SesAt w b s) (ht : t.size ≤ 2000) (hm : w.cell? ⟨6, 0, none⟩ = some (.int .i64 m)) (hg : 6 < w.heap.size) :
    Calls Tryd.prog 100 #[.pointer (some ⟨b, 0, none⟩), .string t] w (PostSes w b (mailV s t)) := by
  have HA := fun w hm hg => address_calls t m w ht hm hg
  obtain ⟨A, c, hK, hc, hT⟩ := hs
  unfold mailV
  generalize angV t = o at *
  replace HA := Lib.hid HA
  obtain ⟨st, fr, to_, tx, lg⟩ := s
  simp only at hK hc hT ⊢
  replace hc := Lib.hid hc
  by_cases h1 : st = 1
  · rw [if_pos h1]
    subst h1
    cases o with
    | none =>
      skip
      go_enter Tryd.func100, Tryd.ntmps100
      go_wp2_with fail
      refine (HA.out _ hm hg).mono ?_
      rintro e w1 ⟨x, rfl, hx, hb1⟩
      have hz1 := hb1.size
      have hB := hK.below hb1 hK.lt
      have b0 := hB.at 0 _ rfl
      have b1 := hB.at 1 _ rfl
      have b2 := hB.at 2 _ rfl
      have g0 := hB.free 0 _ rfl
      have g1 := hB.free 1 _ rfl
      have g2 := hB.free 2 _ rfl
      have bl := hB.lt
      have bn : ¬ b = w1.heap.size := by omega
      have bn2 : ¬ w1.heap.size = b := by omega
      go_wp2_with fail
      go_ret
      exact PostSes.same (s := ⟨1, fr, to_, tx, lg⟩) rfl ⟨A, c, hK, hc.out, hT⟩ (by repeat (first | exact Below.refl _ _ | apply below_alloc | apply pw_below_drewN | apply below_drew1 | (refine Below.setCell ?_ (by first | (simp; done) | (simp; omega) | omega) _) | (refine Below.trans ?_ (Below.mono hb1 (by first | (simp; done) | (simp; omega) | omega)))))
    | some a =>
      skip
      go_enter Tryd.func100, Tryd.ntmps100
      go_wp2_with fail
      refine (HA.out _ hm hg).mono ?_
      rintro e w1 ⟨x, rfl, hx, hb1⟩
      have hz1 := hb1.size
      have hB := hK.below hb1 hK.lt
      have b0 := hB.at 0 _ rfl
      have b1 := hB.at 1 _ rfl
      have b2 := hB.at 2 _ rfl
      have g0 := hB.free 0 _ rfl
      have g1 := hB.free 1 _ rfl
      have g2 := hB.free 2 _ rfl
      have bl := hB.lt
      have bn : ¬ b = w1.heap.size := by omega
      have bn2 : ¬ w1.heap.size = b := by omega
      go_wp2_with fail
      go_region
      all_goals go_wp2_with fail
      go_ret
      have hg1 : w.grownBy w1 (some b) := grown_more (World.grownBy.refl _ _) hb1 (Nat.le_refl _)
      have hg2 := grown_drew (grownA (grown_set (grown_set (grown_set hg1 0 (.int .i64 2)) 1 (.string a.loc)) 2 (.string a.dom)) (Obj.cells #[.string a.loc, .string a.dom] 49))
      exact ⟨rfl, ⟨A, c, ((((hB.set 0 (.int .i64 2) (by simp)).set 1 (.string a.loc) (by simp)).set 2 (.string a.dom) (by simp)).alloc _).drew, hc.out, hT.grown hg2⟩, hg2⟩
  · rw [if_neg h1]
    skip
    go_enter Tryd.func100, Tryd.ntmps100
    go_wp2_with fail
    refine (HA.out _ hm hg).mono ?_
    rintro e w1 ⟨x, rfl, hx, hb1⟩
    have hz1 := hb1.size
    have hB := hK.below hb1 hK.lt
    have b0 := hB.at 0 _ rfl
    have b1 := hB.at 1 _ rfl
    have b2 := hB.at 2 _ rfl
    have g0 := hB.free 0 _ rfl
    have g1 := hB.free 1 _ rfl
    have g2 := hB.free 2 _ rfl
    have bl := hB.lt
    have bn : ¬ b = w1.heap.size := by omega
    have bn2 : ¬ w1.heap.size = b := by omega
    go_wp2_with fail
    go_ret
    exact PostSes.same (s := ⟨st, fr, to_, tx, lg⟩) rfl ⟨A, c, hK, hc.out, hT⟩ (by repeat (first | exact Below.refl _ _ | apply below_alloc | apply pw_below_drewN | apply below_drew1 | (refine Below.setCell ?_ (by first | (simp; done) | (simp; omega) | omega) _) | (refine Below.trans ?_ (Below.mono hb1 (by first | (simp; done) | (simp; omega) | omega)))))
end Go.Proofs.YtijdghplfhfpaaaDoor.H

/- Lines: is a name among those that are known? -/
namespace Go.Proofs.YtijdghplfhfpaaaDoor.H
open Go.RowKit Go.Proofs.YtijdghplfhfpaaaDoorW.PrintWords Go.Proofs.YtijdghplfhfpaaaDoorW.PrintLast Go.Proofs.YtijdghplfhfpaaaDoor.U
set_option linter.unusedVariables false
set_option linter.unusedSimpArgs false
def hasT (l : List ByteArray) (x : ByteArray) : Bool := l.any fun y => y.toList == x.toList
theorem hasT_no {l : List ByteArray} {x : ByteArray} (h : ∀ j (hj : j < l.length), (l[j].toList == x.toList) = false) : hasT l x = false := by
  rw [hasT, List.any_eq_false]
  intro y hy
  obtain ⟨i, hi, rfl⟩ := List.mem_iff_getElem.1 hy
  simpa using h i hi
theorem hasT_yes {l : List ByteArray} {x : ByteArray} (k : Nat) (hk : k < l.length) (h : (l[k].toList == x.toList) = true) : hasT l x = true := by
  rw [hasT, List.any_eq_true]
  exact ⟨_, List.getElem_mem hk, h⟩
set_option maxHeartbeats 1000000 in
set_option maxRecDepth 100000 in
theorem texts_calls (A : Option Addr) (c : Nat) (l : List ByteArray) (w : World) (hr : Kd.C Kd.string w A l.length l) (hl : l.length * 16 ≤ 140737488355328) :
    Calls Tryd.prog 30 #[.slice A l.length c] w fun e w' => ∃ v : Value, e = .returned v ∧ Kd.R Kd.string 9 w' w.heap.size (fun _ => True) v l ∧ Below w.heap.size w w' := by
  go_enter Tryd.func30, Tryd.ntmps30
  go_wp2_with (at_builtin; refine clone_list rowStr rfl _ _ rfl l A c rfl rfl (Kd.C_below hr (by repeat (first | exact Below.refl _ _ | apply below_alloc | apply pw_below_drewN | apply below_drew1))) (by omega) ?_; intro A1 c1 w1 hR hb1)
  go_ret
  exact ⟨_, rfl, hR, hb1⟩
set_option maxHeartbeats 1000000 in
set_option maxRecDepth 100000 in
theorem knownLocal_calls (A : Option Addr) (c : Nat) (l : List ByteArray) (x : ByteArray) (w : World) (hr : Kd.C Kd.string w A l.length l) :
    Calls Tryd.prog 108 #[.slice A l.length c, .string x] w fun e w' => e = .returned (.bool (hasT l x)) ∧ Below w.heap.size w w' := by
  have h63 := hr.2.1
  have hyes := fun k hk h => hasT_yes (l := l) (x := x) k hk h
  have hall := fun h => hasT_no (l := l) (x := x) h
  generalize hasT l x = r at *
  have HY := Lib.hid (And.intro hyes hall)
  clear hyes hall
  go_enter Tryd.func108, Tryd.ntmps108
  go_wp2
  go_loopw [5] (fun i wr => ∃ k : Nat, k ≤ l.length ∧ i = .int .i64 k ∧ (∀ j (hj : j < l.length), j < k → (l[j].toList == x.toList) = false) ∧ ∃ q, wr = w.drewN q) (fun i _ => l.length - (intOf i).toNat)
  case atStart => exact ⟨0, Nat.zero_le _, rfl, fun j _ hj => absurd hj (Nat.not_lt_zero _), 0, rfl⟩
  case round =>
    obtain ⟨k, hk, rfl, hne, q, rfl⟩ := hrel
    have hne := Lib.hid hne
    by_cases hlt : k < l.length
    · obtain ⟨ad, e1, q0⟩ := string_at hr k hlt
      subst e1
      have hs : (l[k].toList == x.toList) = false → ∀ j (hj : j < l.length), j < k + 1 → (l[j].toList == x.toList) = false := fun h j hj hjk => by
        rcases Nat.lt_or_ge j k with h' | h'
        · exact hne.out j hj h'
        · obtain rfl : j = k := by omega
          exact h
      have hy := HY.out.1 k hlt
      have HS := Lib.hid hs
      have hsym : (x.toList == l[k].toList) = (l[k].toList == x.toList) := by
        rw [Bool.eq_iff_iff, beq_iff_eq, beq_iff_eq]; exact eq_comm
      clear hs hne
      generalize l[k] = z at *
      have HYk := Lib.hid hy
      clear hy
      have i0 : (0 : Int) ≤ (k : Int) := by omega
      have i1 : (k : Int) < (l.length : Int) := by omega
      cases hq : z.toList == x.toList with
      | true =>
        rw [hq] at hsym
        obtain rfl := HYk.out hq
        go_wp2
        go_ret
        exact ⟨(by first | rfl | (simp; done) | (simp [*]; done) | (rw [if_pos (by omega)]; first | rfl | (simp; done)) | (rw [if_neg (by omega)]; first | rfl | (simp; done)) | (simp; omega)), (by repeat (first | exact Below.refl _ _ | apply below_alloc | apply pw_below_drewN | apply below_drew1 | (refine Below.setCell ?_ (by first | (simp; done) | (simp; omega) | omega) _) ))⟩
      | false =>
        rw [hq] at hsym
        go_wp2
        go_roundw
        case rel => exact ⟨k + 1, by omega, by go_num, HS.out hq, _, rfl⟩
        case measure => simp [intOf]; omega
    · obtain rfl : k = l.length := by omega
      obtain rfl := HY.out.2 (fun j hj => hne.out j hj hj)
      go_wp2
      go_ret
      exact ⟨(by first | rfl | (simp; done) | (simp [*]; done) | (rw [if_pos (by omega)]; first | rfl | (simp; done)) | (rw [if_neg (by omega)]; first | rfl | (simp; done)) | (simp; omega)), (by repeat (first | exact Below.refl _ _ | apply below_alloc | apply pw_below_drewN | apply below_drew1 | (refine Below.setCell ?_ (by first | (simp; done) | (simp; omega) | omega) _) ))⟩
set_option maxHeartbeats 1000000 in
set_option maxRecDepth 100000 in
theorem nameIndex_calls (A : Option Addr) (c : Nat) (l : List ByteArray) (x : ByteArray) (w : World) (hr : Kd.C Kd.string w A l.length l) :
    Calls Tryd.prog 140 #[.slice A l.length c, .string x] w fun e w' => (∃ i : Int, e = .returned (.int .i64 i) ∧ (hasT l x = decide (0 ≤ i))) ∧ Below w.heap.size w w' := by
  have h63 := hr.2.1
  have hyes := fun k hk h => hasT_yes (l := l) (x := x) k hk h
  have hall := fun h => hasT_no (l := l) (x := x) h
  generalize hasT l x = r at *
  have HY := Lib.hid (And.intro hyes hall)
  clear hyes hall
  go_enter Tryd.func140, Tryd.ntmps140
  go_wp2
  go_loopw [5, 8] (fun _ i wr => ∃ k : Nat, k ≤ l.length ∧ i = .int .i64 k ∧ (∀ j (hj : j < l.length), j < k → (l[j].toList == x.toList) = false) ∧ ∃ q, wr = w.drewN q) (fun _ i _ => l.length - (intOf i).toNat)
  case atStart => exact ⟨0, Nat.zero_le _, rfl, fun j _ hj => absurd hj (Nat.not_lt_zero _), 0, rfl⟩
  case round =>
    obtain ⟨k, hk, rfl, hne, q, rfl⟩ := hrel
    have hne := Lib.hid hne
    by_cases hlt : k < l.length
    · obtain ⟨ad, e1, q0⟩ := string_at hr k hlt
      subst e1
      have hs : (l[k].toList == x.toList) = false → ∀ j (hj : j < l.length), j < k + 1 → (l[j].toList == x.toList) = false := fun h j hj hjk => by
        rcases Nat.lt_or_ge j k with h' | h'
        · exact hne.out j hj h'
        · obtain rfl : j = k := by omega
          exact h
      have hy := HY.out.1 k hlt
      have HS := Lib.hid hs
      have hsym : (x.toList == l[k].toList) = (l[k].toList == x.toList) := by
        rw [Bool.eq_iff_iff, beq_iff_eq, beq_iff_eq]; exact eq_comm
      clear hs hne
      generalize l[k] = z at *
      have HYk := Lib.hid hy
      clear hy
      have i0 : (0 : Int) ≤ (k : Int) := by omega
      have i1 : (k : Int) < (l.length : Int) := by omega
      cases hq : z.toList == x.toList with
      | true =>
        rw [hq] at hsym
        obtain rfl := HYk.out hq
        go_wp2
        go_ret
        exact ⟨⟨_, rfl, by simp⟩, (by repeat (first | exact Below.refl _ _ | apply below_alloc | apply pw_below_drewN | apply below_drew1 | (refine Below.setCell ?_ (by first | (simp; done) | (simp; omega) | omega) _) ))⟩
      | false =>
        rw [hq] at hsym
        go_wp2
        go_roundw
        case rel => exact ⟨k + 1, by omega, by go_num, HS.out hq, _, rfl⟩
        case measure => simp [intOf]; omega
    · obtain rfl : k = l.length := by omega
      obtain rfl := HY.out.2 (fun j hj => hne.out j hj hj)
      go_wp2
      go_ret
      exact ⟨⟨_, rfl, by simp⟩, (by repeat (first | exact Below.refl _ _ | apply below_alloc | apply pw_below_drewN | apply below_drew1 | (refine Below.setCell ?_ (by first | (simp; done) | (simp; omega) | omega) _) ))⟩
set_option maxHeartbeats 1000000 in
set_option maxRecDepth 100000 in
theorem nameContains_calls (A : Option Addr) (c : Nat) (l : List ByteArray) (x : ByteArray) (w : World) (hr : Kd.C Kd.string w A l.length l) :
    Calls Tryd.prog 81 #[.slice A l.length c, .string x] w fun e w' => e = .returned (.bool (hasT l x)) ∧ Below w.heap.size w w' := by
  have HI := fun w hr => nameIndex_calls A c l x w hr
  generalize hasT l x = r at *
  have HI := Lib.hid HI
  go_enter Tryd.func81, Tryd.ntmps81
  go_wp2_with fail
  refine (HI.out _ hr).mono ?_
  rintro e w1 ⟨⟨i, rfl, hi⟩, hb1⟩
  subst hi
  by_cases h : 0 ≤ i
  all_goals
    go_wp2_with fail
    go_ret
    exact ⟨by simp [h], (by repeat (first | exact Below.refl _ _ | apply below_alloc | apply pw_below_drewN | apply below_drew1 | (refine Below.setCell ?_ (by first | (simp; done) | (simp; omega) | omega) _) | (refine below_then ?_ (by first | (simp; done) | (simp; omega) | omega) hb1)))⟩
end Go.Proofs.YtijdghplfhfpaaaDoor.H

/- Lines: what stands behind a RCPT line. -/
namespace Go.Proofs.YtijdghplfhfpaaaDoor.H
open Go.RowKit Go.Proofs.YtijdghplfhfpaaaDoorW.PrintWords Go.Proofs.YtijdghplfhfpaaaDoorW.PrintLast Go.Proofs.YtijdghplfhfpaaaDoor.U
set_option linter.unusedVariables false
set_option linter.unusedSimpArgs false
def rcptV (s : Ses) (kn : List ByteArray) (t : ByteArray) : Ses × Int :=
  if s.st = 2 ∨ s.st = 3 then
    match angV t with
    | none => (s, 501)
    | some a =>
      if hasT kn a.loc = true then
        if hasA s.to_ a = true then (s, 250)
        else if s.to_.length = 5 then (s, 452)
        else ({ s with st := 3, to_ := s.to_ ++ [a] }, 250)
      else (s, 550)
  else (s, 503)
theorem R_allocA {w : World} {base : Nat} {v : Value} {xs : List AAddress} (h : Kd.R kAAddress 49 w base (fun _ => True) v xs) (o : Obj) : Kd.R kAAddress 49 (w.alloc o) base (fun _ => True) v xs :=
  Kd.R_mono (Kd.R_grown (Kd.R_bound h) (grownA (World.grownBy.refl w none) o) (fun k _ he => by simp at he)) (fun _ _ => trivial)
theorem lit_addr (W : World) (x : AAddress) : Kd.C kAAddress (W.alloc (.cells #[.string x.loc, .string x.dom] 49)) (some ⟨W.heap.size, 0, none⟩) 1 [x] :=
  (Kd.R_reads' (R_lit1 kAAddress flat_kd 49 W x [.string x.loc, .string x.dom] rfl)).2.2
set_option maxHeartbeats 1000000 in
set_option maxRecDepth 100000 in
theorem rcpt_calls (b : Nat) (s : Ses) (t : ByteArray) (A0 : Option Addr) (c0 : Nat) (kn : List ByteArray) (m : Int) (w : World) (hs : SesAt w b s) (h5 : s.to_.length ≤ 5) (ht : t.size ≤ 2000) (hkn : ∀ w', w.grownBy w' (some b) → Kd.C Kd.string w' A0 kn.length kn) (hm : w.cell? ⟨6, 0, none⟩ = some (.int .i64 m)) (hg : 6 < w.heap.size) :
    Calls Tryd.prog 101 #[.pointer (some ⟨b, 0, none⟩), .string t, .slice A0 kn.length c0] w (PostSes w b (rcptV s kn t)) := by
  have HA := fun w hm hg => address_calls t m w ht hm hg
  obtain ⟨A, c, hK, hc, hT⟩ := hs
  have HN := fun x w hr => nameContains_calls A0 c0 kn x w hr
  have HC := fun x w hr => addrContains_calls A c s.to_ x w hr
  unfold rcptV
  generalize angV t = o at *
  replace HA := Lib.hid HA
  obtain ⟨st, fr, to_, tx, lg⟩ := s
  simp only at hK hc hT HC h5 ⊢
  replace hc := Lib.hid hc
  replace HN := Lib.hid HN
  replace HC := Lib.hid HC
  by_cases h1 : st = 2 ∨ st = 3
  · rw [if_pos h1]
    cases o with
    | none =>
      rcases h1 with rfl | rfl
      all_goals
        skip
        go_enter Tryd.func101, Tryd.ntmps101
        go_wp2_with fail
        refine (HA.out _ hm hg).mono ?_
        rintro e w1 ⟨x, rfl, hx, hb1⟩
        have hz1 := hb1.size
        have hB := hK.below hb1 hK.lt
        have b0 := hB.at 0 _ rfl
        have b3 := hB.at 3 _ rfl
        have g0 := hB.free 0 _ rfl
        have g3 := hB.free 3 _ rfl
        have bl := hB.lt
        have bn : ¬ b = w1.heap.size := by omega
        have bn2 : ¬ w1.heap.size = b := by omega
        go_wp2_with fail
        go_ret
        exact PostSes.same (s := ⟨_, fr, to_, tx, lg⟩) rfl ⟨A, c, hK, hc.out, hT⟩ (by repeat (first | exact Below.refl _ _ | apply below_alloc | apply pw_below_drewN | apply below_drew1 | (refine Below.setCell ?_ (by first | (simp; done) | (simp; omega) | omega) _) | (refine Below.trans ?_ (Below.mono hb1 (by first | (simp; done) | (simp; omega) | omega)))))
    | some a =>
      simp only
      have hst : (st != 2 && st != 3) = false := by rcases h1 with rfl | rfl <;> rfl
      have hq1 : (st != 2) = false ∨ (st != 2) = true ∧ (st != 3) = false := by rcases h1 with rfl | rfl <;> simp
      replace HN := Lib.hid (HN.out a.loc)
      replace HC := Lib.hid (HC.out a)
      generalize hasT kn a.loc = k1 at *
      generalize hasA to_ a = k2 at *
      clear h1
      rcases hq1 with hq1 | ⟨hq1, hq2⟩
      all_goals
        cases k1 with
        | false =>
          rw [if_neg (by simp)]
          skip
          go_enter Tryd.func101, Tryd.ntmps101
          go_wp2_with fail
          refine (HA.out _ hm hg).mono ?_
          rintro e w1 ⟨x, rfl, hx, hb1⟩
          have hz1 := hb1.size
          have hB := hK.below hb1 hK.lt
          have b0 := hB.at 0 _ rfl
          have b3 := hB.at 3 _ rfl
          have g0 := hB.free 0 _ rfl
          have g3 := hB.free 3 _ rfl
          have bl := hB.lt
          have bn : ¬ b = w1.heap.size := by omega
          have bn2 : ¬ w1.heap.size = b := by omega
          go_wp2_with fail
          refine (HN.out _ (hkn _ (grownA (grown_more (World.grownBy.refl _ _) hb1 (Nat.le_refl _)) _))).mono ?_
          rintro e w2 ⟨rfl, hb2⟩
          go_wp2_with fail
          go_ret
          exact PostSes.same (s := ⟨st, fr, to_, tx, lg⟩) rfl ⟨A, c, hK, hc.out, hT⟩ (by repeat (first | exact Below.refl _ _ | apply below_alloc | apply pw_below_drewN | apply below_drew1 | (refine Below.setCell ?_ (by first | (simp; done) | (simp; omega) | omega) _) | (refine below_then ?_ (by first | (simp; done) | (simp; omega) | omega) hb2) | (refine Below.trans ?_ (Below.mono hb1 (by first | (simp; done) | (simp; omega) | omega)))))
        | true =>
          rw [if_pos rfl]
          cases k2 with
          | true =>
            rw [if_pos rfl]
            skip
            skip
            go_enter Tryd.func101, Tryd.ntmps101
            go_wp2_with fail
            refine (HA.out _ hm hg).mono ?_
            rintro e w1 ⟨x, rfl, hx, hb1⟩
            have hz1 := hb1.size
            have hB := hK.below hb1 hK.lt
            have b0 := hB.at 0 _ rfl
            have b3 := hB.at 3 _ rfl
            have g0 := hB.free 0 _ rfl
            have g3 := hB.free 3 _ rfl
            have bl := hB.lt
            have bn : ¬ b = w1.heap.size := by omega
            have bn2 : ¬ w1.heap.size = b := by omega
            go_wp2_with fail
            have hgW : w.grownBy (w1.alloc (.cells #[.string a.loc, .string a.dom] 49)) (some b) := grownA (grown_more (World.grownBy.refl _ _) hb1 (Nat.le_refl _)) _
            have hX : Blk (w1.alloc (.cells #[.string a.loc, .string a.dom] 49)) w1.heap.size [.string a.loc, .string a.dom] := Blk.made _ _ _
            have hbW : Below w.heap.size w (w1.alloc (.cells #[.string a.loc, .string a.dom] 49)) := (by repeat (first | exact Below.refl _ _ | apply below_alloc | apply pw_below_drewN | apply below_drew1 | (refine Below.setCell ?_ (by first | (simp; done) | (simp; omega) | omega) _) | (refine Below.trans ?_ (Below.mono hb1 (by first | (simp; done) | (simp; omega) | omega)))))
            refine (HN.out _ (hkn _ hgW)).mono ?_
            rintro e w2 ⟨rfl, hb2⟩
            have hX2 := hX.below hb2 hX.lt
            have hB2 : Below w.heap.size w w2 := hbW.trans (hb2.mono hbW.size)
            have hlt2 := hX2.lt
            have hK2 := hK.below hB2 hK.lt
            have hT2 := hT.grown (grown_more (World.grownBy.refl _ _) hB2 (Nat.le_refl _))
            clear hbW hgW hX hb2
            clear b0 b3 g0 g3 bl
            have b3 := hK2.at 3 _ rfl
            have bl := hK2.lt
            have x0 := hX2.at 0 _ rfl
            have x1 := hX2.at 1 _ rfl
            go_wp2_with fail
            go_region_held3 (fun w' => w'.cell? ⟨b, 3, none⟩ = some (.slice A to_.length c) ∧ w'.cell? ⟨w1.heap.size, 0, none⟩ = some (.string a.loc) ∧ w'.cell? ⟨w1.heap.size, 1, none⟩ = some (.string a.dom))
              (first | exact ⟨y3, y0, y1⟩ | go_keep)
              (first | (go_at_call 98; refine (HC.out _ (hT2.grown (grown_drew (World.grownBy.refl _ _))).now).mono ?_; rintro e w3 ⟨rfl, hb3⟩; have y3 := (hK2.drew.below hb3 hK2.drew.lt).at 3 _ rfl; have y0 := (hX2.drew.below hb3 hX2.drew.lt).at 0 _ rfl; have y1 := (hX2.drew.below hb3 hX2.drew.lt).at 1 _ rfl; have hB3 : Below w.heap.size w w3 := hB2.trans ((below_drew1 (Below.refl _ _)).trans (hb3.mono (by simp; exact hB2.size)))))
            go_wp2_with fail
            go_ret
            exact PostSes.same (s := ⟨st, fr, to_, tx, lg⟩) rfl ⟨A, c, hK, hc.out, hT⟩ hB3
          | false =>
            rw [if_neg (by simp)]
            by_cases h6 : to_.length = 5
            · rw [if_pos h6]
              have j6 : ((to_.length : Int) == 5) = true := by rw [h6]; rfl
              replace h6 := Lib.hid h6
              skip
              skip
              go_enter Tryd.func101, Tryd.ntmps101
              go_wp2_with fail
              refine (HA.out _ hm hg).mono ?_
              rintro e w1 ⟨x, rfl, hx, hb1⟩
              have hz1 := hb1.size
              have hB := hK.below hb1 hK.lt
              have b0 := hB.at 0 _ rfl
              have b3 := hB.at 3 _ rfl
              have g0 := hB.free 0 _ rfl
              have g3 := hB.free 3 _ rfl
              have bl := hB.lt
              have bn : ¬ b = w1.heap.size := by omega
              have bn2 : ¬ w1.heap.size = b := by omega
              go_wp2_with fail
              have hgW : w.grownBy (w1.alloc (.cells #[.string a.loc, .string a.dom] 49)) (some b) := grownA (grown_more (World.grownBy.refl _ _) hb1 (Nat.le_refl _)) _
              have hX : Blk (w1.alloc (.cells #[.string a.loc, .string a.dom] 49)) w1.heap.size [.string a.loc, .string a.dom] := Blk.made _ _ _
              have hbW : Below w.heap.size w (w1.alloc (.cells #[.string a.loc, .string a.dom] 49)) := (by repeat (first | exact Below.refl _ _ | apply below_alloc | apply pw_below_drewN | apply below_drew1 | (refine Below.setCell ?_ (by first | (simp; done) | (simp; omega) | omega) _) | (refine Below.trans ?_ (Below.mono hb1 (by first | (simp; done) | (simp; omega) | omega)))))
              refine (HN.out _ (hkn _ hgW)).mono ?_
              rintro e w2 ⟨rfl, hb2⟩
              have hX2 := hX.below hb2 hX.lt
              have hB2 : Below w.heap.size w w2 := hbW.trans (hb2.mono hbW.size)
              have hlt2 := hX2.lt
              have hK2 := hK.below hB2 hK.lt
              have hT2 := hT.grown (grown_more (World.grownBy.refl _ _) hB2 (Nat.le_refl _))
              clear hbW hgW hX hb2
              clear b0 b3 g0 g3 bl
              have b3 := hK2.at 3 _ rfl
              have bl := hK2.lt
              have x0 := hX2.at 0 _ rfl
              have x1 := hX2.at 1 _ rfl
              go_wp2_with fail
              go_region_held3 (fun w' => w'.cell? ⟨b, 3, none⟩ = some (.slice A to_.length c) ∧ w'.cell? ⟨w1.heap.size, 0, none⟩ = some (.string a.loc) ∧ w'.cell? ⟨w1.heap.size, 1, none⟩ = some (.string a.dom))
                (first | exact ⟨y3, y0, y1⟩ | go_keep)
                (first | (go_at_call 98; refine (HC.out _ (hT2.grown (grown_drew (World.grownBy.refl _ _))).now).mono ?_; rintro e w3 ⟨rfl, hb3⟩; have y3 := (hK2.drew.below hb3 hK2.drew.lt).at 3 _ rfl; have y0 := (hX2.drew.below hb3 hX2.drew.lt).at 0 _ rfl; have y1 := (hX2.drew.below hb3 hX2.drew.lt).at 1 _ rfl; have hB3 : Below w.heap.size w w3 := hB2.trans ((below_drew1 (Below.refl _ _)).trans (hb3.mono (by simp; exact hB2.size)))))
              have b3 := y3
              have bl3 := (hK2.drew.below hb3 hK2.drew.lt).lt
              go_wp2_with fail
              go_ret
              exact PostSes.same (s := ⟨st, fr, to_, tx, lg⟩) rfl ⟨A, c, hK, hc.out, hT⟩ hB3
            · rw [if_neg h6]
              have j6 : ((to_.length : Int) == 5) = false := beq_eq_false_iff_ne.mpr (by omega)
              replace h6 := Lib.hid h6
              skip
              skip
              go_enter Tryd.func101, Tryd.ntmps101
              go_wp2_with fail
              refine (HA.out _ hm hg).mono ?_
              rintro e w1 ⟨x, rfl, hx, hb1⟩
              have hz1 := hb1.size
              have hB := hK.below hb1 hK.lt
              have b0 := hB.at 0 _ rfl
              have b3 := hB.at 3 _ rfl
              have g0 := hB.free 0 _ rfl
              have g3 := hB.free 3 _ rfl
              have bl := hB.lt
              have bn : ¬ b = w1.heap.size := by omega
              have bn2 : ¬ w1.heap.size = b := by omega
              go_wp2_with fail
              have hgW : w.grownBy (w1.alloc (.cells #[.string a.loc, .string a.dom] 49)) (some b) := grownA (grown_more (World.grownBy.refl _ _) hb1 (Nat.le_refl _)) _
              have hX : Blk (w1.alloc (.cells #[.string a.loc, .string a.dom] 49)) w1.heap.size [.string a.loc, .string a.dom] := Blk.made _ _ _
              have hbW : Below w.heap.size w (w1.alloc (.cells #[.string a.loc, .string a.dom] 49)) := (by repeat (first | exact Below.refl _ _ | apply below_alloc | apply pw_below_drewN | apply below_drew1 | (refine Below.setCell ?_ (by first | (simp; done) | (simp; omega) | omega) _) | (refine Below.trans ?_ (Below.mono hb1 (by first | (simp; done) | (simp; omega) | omega)))))
              refine (HN.out _ (hkn _ hgW)).mono ?_
              rintro e w2 ⟨rfl, hb2⟩
              have hX2 := hX.below hb2 hX.lt
              have hB2 : Below w.heap.size w w2 := hbW.trans (hb2.mono hbW.size)
              have hlt2 := hX2.lt
              have hK2 := hK.below hB2 hK.lt
              have hT2 := hT.grown (grown_more (World.grownBy.refl _ _) hB2 (Nat.le_refl _))
              clear hbW hgW hX hb2
              clear b0 b3 g0 g3 bl
              have b3 := hK2.at 3 _ rfl
              have bl := hK2.lt
              have x0 := hX2.at 0 _ rfl
              have x1 := hX2.at 1 _ rfl
              go_wp2_with fail
              go_region_held3 (fun w' => w'.cell? ⟨b, 3, none⟩ = some (.slice A to_.length c) ∧ w'.cell? ⟨w1.heap.size, 0, none⟩ = some (.string a.loc) ∧ w'.cell? ⟨w1.heap.size, 1, none⟩ = some (.string a.dom))
                (first | exact ⟨y3, y0, y1⟩ | go_keep)
                (first | (go_at_call 98; refine (HC.out _ (hT2.grown (grown_drew (World.grownBy.refl _ _))).now).mono ?_; rintro e w3 ⟨rfl, hb3⟩; have y3 := (hK2.drew.below hb3 hK2.drew.lt).at 3 _ rfl; have y0 := (hX2.drew.below hb3 hX2.drew.lt).at 0 _ rfl; have y1 := (hX2.drew.below hb3 hX2.drew.lt).at 1 _ rfl; have hB3 : Below w.heap.size w w3 := hB2.trans ((below_drew1 (Below.refl _ _)).trans (hb3.mono (by simp; exact hB2.size)))))
              have hK3 := hK2.drew.below hb3 hK2.drew.lt
              have b0 := hK3.at 0 _ rfl
              have g0 := hK3.free 0 _ rfl
              have b3 := y3
              have g3 := hK3.free 3 _ rfl
              have bl3 := hK3.lt
              go_wp2_with fail
              skip
              obtain ⟨W4, hW4⟩ : ∃ W4 : World, W4 = w3.setCell ⟨b, 0, none⟩ (.int .i64 3) := ⟨_, rfl⟩
              have K4 : Blk W4 b [.int .i64 3, .string fr.loc, .string fr.dom, .slice A to_.length c, .string tx, .bool lg] := by rw [hW4]; exact hK3.set 0 (.int .i64 3) (by simp)
              have X4 : Blk W4 w1.heap.size [.string a.loc, .string a.dom] := by rw [hW4]; exact (hX2.drew.below hb3 hX2.drew.lt).other bn (.int .i64 3)
              have G4 : w.grownBy W4 (some b) := by rw [hW4]; exact grown_set (grown_more (World.grownBy.refl _ _) hB3 (Nat.le_refl _)) 0 (.int .i64 3)
              rw [← hW4]
              replace hW4 := Lib.hid hW4
              clear hX2 hK2 hT2 hb3 hB3 hK3 b0 b3 g0 g3 y0 y1 y3 x0 x1 HN HC bl bl3 hlt2
              have K4d := K4.drew
              have X4d := X4.drew
              have T4d := hT.grown (grown_drew G4)
              have G4d := grown_drew G4
              have kl := K4d.lt
              have xl := X4d.lt
              generalize hV : W4.drew = V at *
              have k3 := K4d.at 3 _ rfl
              have x0 := X4d.at 0 _ rfl
              have x1 := X4d.at 1 _ rfl
              refine wp_region_held_drew (S := fun w' => w'.cell? ⟨w1.heap.size, 0, none⟩ = some (.string a.loc) ∧ w'.cell? ⟨w1.heap.size, 1, none⟩ = some (.string a.dom)) (by kernel_rfl) ?_ (fun hHeld => ?_)
              · rw [hV]; exact ⟨x0, x1⟩
              rw [hV] at hHeld ⊢
              refine wpAnyH_take (i := 0) (oi := { dst := some 58, op := _, type := _, pos := _, after := _, guard := _ }) (v := .pointer (some ⟨b, 0, none⟩)) rfl (by kernel_rfl) (by kernel_rfl) (by kernel_rfl) (fun _ _ _ h => h) (Or.inl ⟨by rfl, by (intro w hSw; (try dsimp only at hSw); first | (go_simp; done) | (go_simp; with_reducible rfl) | (go_simp; omega) | (go_simp; simp [*]; done))⟩) (by assumption) ?_; try simp only [Act.put, List.setIfInBounds_toArray, List.set_cons_zero, List.set_cons_succ]
              refine wpAnyH_take (i := 1) (oi := { dst := some 59, op := _, type := _, pos := _, after := _, guard := _ }) (v := .pointer (some ⟨b, 0, none⟩)) rfl (by kernel_rfl) (by kernel_rfl) (by kernel_rfl) (fun _ _ _ h => h) (Or.inl ⟨by rfl, by (intro w hSw; (try dsimp only at hSw); first | (go_simp; done) | (go_simp; with_reducible rfl) | (go_simp; omega) | (go_simp; simp [*]; done))⟩) (by assumption) ?_; try simp only [Act.put, List.setIfInBounds_toArray, List.set_cons_zero, List.set_cons_succ]
              refine wpAnyH_take (i := 2) (oi := { dst := some 60, op := _, type := _, pos := _, after := _, guard := _ }) (v := .pointer (some ⟨b, 0, none⟩)) rfl (by kernel_rfl) (by kernel_rfl) (by kernel_rfl) (fun _ _ _ h => h) (Or.inl ⟨by rfl, by (intro w hSw; (try dsimp only at hSw); first | (go_simp; done) | (go_simp; with_reducible rfl) | (go_simp; omega) | (go_simp; simp [*]; done))⟩) (by assumption) ?_; try simp only [Act.put, List.setIfInBounds_toArray, List.set_cons_zero, List.set_cons_succ]
              refine wpAnyH_take (i := 3) (oi := { dst := some 61, op := _, type := _, pos := _, after := _, guard := _ }) (v := .pointer (some ⟨b, 0, none⟩)) rfl (by kernel_rfl) (by kernel_rfl) (by kernel_rfl) (fun _ _ _ h => h) (Or.inl ⟨by rfl, by (intro w hSw; (try dsimp only at hSw); first | (go_simp; done) | (go_simp; with_reducible rfl) | (go_simp; omega) | (go_simp; simp [*]; done))⟩) (by assumption) ?_; try simp only [Act.put, List.setIfInBounds_toArray, List.set_cons_zero, List.set_cons_succ]
              refine wpAnyH_take (i := 4) (oi := { dst := some 62, op := _, type := _, pos := _, after := _, guard := _ }) (v := .pointer (some ⟨b, 3, none⟩)) rfl (by kernel_rfl) (by kernel_rfl) (by kernel_rfl) (fun _ _ _ h => h) (Or.inl ⟨by rfl, by (intro w hSw; (try dsimp only at hSw); first | (go_simp; done) | (go_simp; with_reducible rfl) | (go_simp; omega) | (go_simp; simp [*]; done))⟩) (by assumption) ?_; try simp only [Act.put, List.setIfInBounds_toArray, List.set_cons_zero, List.set_cons_succ]
              refine wpAnyH_take (i := 7) (oi := { dst := some 65, op := _, type := _, pos := _, after := _, guard := _ }) (v := .agg #[.string a.loc, .string a.dom]) rfl (by kernel_rfl) (by kernel_rfl) (by kernel_rfl) (fun _ _ _ h => h) (Or.inl ⟨by rfl, by (intro w hSw; (try dsimp only at hSw); first | (go_simp; done) | (go_simp; with_reducible rfl) | (go_simp; omega) | (go_simp; simp [*]; done))⟩) (by assumption) ?_; try simp only [Act.put, List.setIfInBounds_toArray, List.set_cons_zero, List.set_cons_succ]
              refine wpAnyH_ready (rs := [5, 8]) (by kernel_rfl) (by simp) ?_
              refine AllReadyH.cons (o := { dst := some 63, op := _, type := _, pos := _, after := _, guard := _ }) rfl (fun K hK => ?_) (AllReadyH.cons (o := { dst := some 66, op := _, type := _, pos := _, after := _, guard := _ }) rfl (fun K hK => ?_) AllReadyH.nil)
              · go_simp
                refine hK.out _ _ ⟨x0, x1⟩ (fun hHeld => ?_)
                clear hK K
                refine wpAnyH_ready (rs := [6, 8]) (by kernel_rfl) (by simp) ?_
                refine AllReadyH.cons (o := { dst := some 64, op := _, type := _, pos := _, after := _, guard := _ }) rfl (fun K hK => ?_) (AllReadyH.cons (o := { dst := some 66, op := _, type := _, pos := _, after := _, guard := _ }) rfl (fun K hK => ?_) AllReadyH.nil)
                · go_simp
                  go_at_call 64
                  refine (cloneAddrs_calls A c to_ _ T4d.now (by omega)).mono ?_
                  rintro e w5 ⟨v5, rfl, hR5, hb5⟩
                  obtain ⟨A5, c5, rfl⟩ := Kd.R_slice hR5
                  have K5 := K4d.below hb5 kl
                  have y0 := (hb5.cell (p := ⟨w1.heap.size, 0, none⟩) xl).trans x0
                  have y1 := (hb5.cell (p := ⟨w1.heap.size, 1, none⟩) xl).trans x1
                  have G5 := grown_more G4d hb5 G4d.size
                  have z5 := hb5.size
                  (try simp only [Result.andThen])
                  refine hK.out _ _ ⟨y0, y1⟩ (fun hHeld => ?_)
                  clear hK K
                  refine wpAnyH_ready (rs := [8]) (by kernel_rfl) (by simp) ?_
                  refine AllReadyH.cons (o := { dst := some 66, op := _, type := _, pos := _, after := _, guard := _ }) rfl (fun K hK => ?_) AllReadyH.nil
                  go_simp
                  refine hK.out _ _ ⟨cell_alloc' y0 _, cell_alloc' y1 _⟩ (fun hHeld => ?_)
                  clear hK K
                  have zz : (w5.alloc (.cells #[.string a.loc, .string a.dom] 49)).heap.size = w5.heap.size + 1 := by simp
                  have z6 : V.heap.size ≤ (w5.alloc (.cells #[.string a.loc, .string a.dom] 49)).heap.size := by omega
                  have R6 := R_allocA hR5 (.cells #[.string a.loc, .string a.dom] 49)
                  refine wpAnyH_ready (rs := [9]) (by kernel_rfl) (by simp) ?_
                  refine AllReadyH.cons (o := { dst := some 67, op := _, type := _, pos := _, after := _, guard := _ }) rfl (fun K hK => ?_) AllReadyH.nil
                  refine rows_step rowAAddress V.heap.size (by rfl) (.tmp 64) (.tmp 66) (by rfl) (.slice A5 to_.length c5) to_ [a] (some ⟨w5.heap.size, 0, none⟩) 1 (by rfl) (by rfl) R6 (lit_addr w5 a) z6 (by simp; omega) ?_
                  intro v8 w8 hR8 hb8 hg8
                  have K8 := ((K5.alloc (.cells #[.string a.loc, .string a.dom] 49))).below hb8 (by omega)
                  have e0 := (hb8.cell (p := ⟨w1.heap.size, 0, none⟩) (by show w1.heap.size < _; omega)).trans (cell_alloc' y0 (.cells #[.string a.loc, .string a.dom] 49))
                  have e1 := (hb8.cell (p := ⟨w1.heap.size, 1, none⟩) (by show w1.heap.size < _; omega)).trans (cell_alloc' y1 (.cells #[.string a.loc, .string a.dom] 49))
                  refine hK.out _ _ ⟨e0, e1⟩ (fun hHeld => ?_)
                  clear hK K
                  obtain ⟨A8, c8, rfl, hc8, hC8⟩ := C_of hR8
                  have k38 := K8.at 3 _ rfl
                  have f38 := K8.free 3 _ rfl
                  have l38 := K8.lt
                  have bne : ¬ w1.heap.size = b := bn2
                  refine wpAnyH_take (i := 10) (oi := { dst := some 68, op := _, type := _, pos := _, after := _, guard := _ }) (v := .pointer (some ⟨b, 0, none⟩)) rfl (by kernel_rfl) (by kernel_rfl) (by kernel_rfl) (fun _ _ _ h => h) (Or.inl ⟨by rfl, by (intro w hSw; (try dsimp only at hSw); first | (go_simp; done) | (go_simp; with_reducible rfl) | (go_simp; omega) | (go_simp; simp [*]; done))⟩) (by assumption) ?_; try simp only [Act.put, List.setIfInBounds_toArray, List.set_cons_zero, List.set_cons_succ]
                  refine wpAnyH_take (i := 11) (oi := { dst := some 69, op := _, type := _, pos := _, after := _, guard := _ }) (v := .pointer (some ⟨b, 0, none⟩)) rfl (by kernel_rfl) (by kernel_rfl) (by kernel_rfl) (fun _ _ _ h => h) (Or.inl ⟨by rfl, by (intro w hSw; (try dsimp only at hSw); first | (go_simp; done) | (go_simp; with_reducible rfl) | (go_simp; omega) | (go_simp; simp [*]; done))⟩) (by assumption) ?_; try simp only [Act.put, List.setIfInBounds_toArray, List.set_cons_zero, List.set_cons_succ]
                  refine wpAnyH_take (i := 12) (oi := { dst := some 70, op := _, type := _, pos := _, after := _, guard := _ }) (v := .pointer (some ⟨b, 3, none⟩)) rfl (by kernel_rfl) (by kernel_rfl) (by kernel_rfl) (fun _ _ _ h => h) (Or.inl ⟨by rfl, by (intro w hSw; (try dsimp only at hSw); first | (go_simp; done) | (go_simp; with_reducible rfl) | (go_simp; omega) | (go_simp; simp [*]; done))⟩) (by assumption) ?_; try simp only [Act.put, List.setIfInBounds_toArray, List.set_cons_zero, List.set_cons_succ]
                  refine wpAnyH_ready (rs := [13]) (by kernel_rfl) (by simp) ?_
                  refine AllReadyH.cons (o := { dst := none, op := _, type := _, pos := _, after := _, guard := _ }) rfl (fun K hK => ?_) AllReadyH.nil
                  go_simp
                  refine hK.out _ _ ⟨by rw [World.cell?_setCell_other _ _ _ _ (by simp [bne])]; exact e0, by rw [World.cell?_setCell_other _ _ _ _ (by simp [bne])]; exact e1⟩ (fun hHeld => ?_)
                  clear hK K
                  refine wpAnyH_done (by kernel_rfl) ?_ _
                  go_wp2_with fail
                  go_ret
                  have hl8 : (to_ ++ [a]).length = to_.length + 1 := by simp
                  have R9 := R_elder hR8 (p := ⟨b, 3, none⟩) (by show b < _; omega) (.slice A8 (to_.length + 1) c8)
                  have K9 := K8.set 3 (.slice A8 (to_.length + 1) c8) (by simp)
                  have gz := G4d.size
                  have G9 := grown_set (grown_more (grownA G5 (.cells #[.string a.loc, .string a.dom] 49)) hb8 (by omega)) 3 (.slice A8 (to_.length + 1) c8)
                  have hbb : b < V.heap.size := by omega
                  exact ⟨rfl, ⟨A8, c8, by show Blk _ b [_, _, _, .slice A8 (to_ ++ [a]).length c8, _, _]; rw [hl8]; exact K9, hc8, toR_of R9 hbb⟩, G9⟩
                · go_simp
                  refine hK.out _ _ ⟨cell_alloc' x0 _, cell_alloc' x1 _⟩ (fun hHeld => ?_)
                  clear hK K
                  refine wpAnyH_ready (rs := [6]) (by kernel_rfl) (by simp) ?_
                  refine AllReadyH.cons (o := { dst := some 64, op := _, type := _, pos := _, after := _, guard := _ }) rfl (fun K hK => ?_) AllReadyH.nil
                  go_simp
                  go_at_call 64
                  refine (cloneAddrs_calls A c to_ _ (hT.grown (grownA G4d (.cells #[.string a.loc, .string a.dom] 49))).now (by omega)).mono ?_
                  rintro e w5 ⟨v5, rfl, hR5, hb5⟩
                  have zz : (V.alloc (.cells #[.string a.loc, .string a.dom] 49)).heap.size = V.heap.size + 1 := by simp
                  obtain ⟨A5, c5, rfl⟩ := Kd.R_slice hR5
                  have K5 := (K4d.alloc (.cells #[.string a.loc, .string a.dom] 49)).below hb5 (by omega)
                  have y0 := (hb5.cell (p := ⟨w1.heap.size, 0, none⟩) (by show w1.heap.size < _; omega)).trans (cell_alloc' x0 (.cells #[.string a.loc, .string a.dom] 49))
                  have y1 := (hb5.cell (p := ⟨w1.heap.size, 1, none⟩) (by show w1.heap.size < _; omega)).trans (cell_alloc' x1 (.cells #[.string a.loc, .string a.dom] 49))
                  have G5 := grown_more (grownA G4d (.cells #[.string a.loc, .string a.dom] 49)) hb5 (grownA G4d (.cells #[.string a.loc, .string a.dom] 49)).size
                  have L5 := Kd.C_below (lit_addr V a) hb5
                  have z5 := hb5.size
                  (try simp only [Result.andThen])
                  refine hK.out _ _ ⟨y0, y1⟩ (fun hHeld => ?_)
                  clear hK K
                  rw [zz] at hR5 z5
                  refine wpAnyH_ready (rs := [9]) (by kernel_rfl) (by simp) ?_
                  refine AllReadyH.cons (o := { dst := some 67, op := _, type := _, pos := _, after := _, guard := _ }) rfl (fun K hK => ?_) AllReadyH.nil
                  refine rows_step rowAAddress (V.heap.size + 1) (by rfl) (.tmp 64) (.tmp 66) (by rfl) (.slice A5 to_.length c5) to_ [a] (some ⟨V.heap.size, 0, none⟩) 1 (by rfl) (by rfl) hR5 L5 z5 (by simp; omega) ?_
                  intro v8 w8 hR8 hb8 hg8
                  have K8 := (K5).below hb8 (by omega)
                  have e0 := (hb8.cell (p := ⟨w1.heap.size, 0, none⟩) (by show w1.heap.size < _; omega)).trans y0
                  have e1 := (hb8.cell (p := ⟨w1.heap.size, 1, none⟩) (by show w1.heap.size < _; omega)).trans y1
                  refine hK.out _ _ ⟨e0, e1⟩ (fun hHeld => ?_)
                  clear hK K
                  obtain ⟨A8, c8, rfl, hc8, hC8⟩ := C_of hR8
                  have k38 := K8.at 3 _ rfl
                  have f38 := K8.free 3 _ rfl
                  have l38 := K8.lt
                  have bne : ¬ w1.heap.size = b := bn2
                  refine wpAnyH_take (i := 10) (oi := { dst := some 68, op := _, type := _, pos := _, after := _, guard := _ }) (v := .pointer (some ⟨b, 0, none⟩)) rfl (by kernel_rfl) (by kernel_rfl) (by kernel_rfl) (fun _ _ _ h => h) (Or.inl ⟨by rfl, by (intro w hSw; (try dsimp only at hSw); first | (go_simp; done) | (go_simp; with_reducible rfl) | (go_simp; omega) | (go_simp; simp [*]; done))⟩) (by assumption) ?_; try simp only [Act.put, List.setIfInBounds_toArray, List.set_cons_zero, List.set_cons_succ]
                  refine wpAnyH_take (i := 11) (oi := { dst := some 69, op := _, type := _, pos := _, after := _, guard := _ }) (v := .pointer (some ⟨b, 0, none⟩)) rfl (by kernel_rfl) (by kernel_rfl) (by kernel_rfl) (fun _ _ _ h => h) (Or.inl ⟨by rfl, by (intro w hSw; (try dsimp only at hSw); first | (go_simp; done) | (go_simp; with_reducible rfl) | (go_simp; omega) | (go_simp; simp [*]; done))⟩) (by assumption) ?_; try simp only [Act.put, List.setIfInBounds_toArray, List.set_cons_zero, List.set_cons_succ]
                  refine wpAnyH_take (i := 12) (oi := { dst := some 70, op := _, type := _, pos := _, after := _, guard := _ }) (v := .pointer (some ⟨b, 3, none⟩)) rfl (by kernel_rfl) (by kernel_rfl) (by kernel_rfl) (fun _ _ _ h => h) (Or.inl ⟨by rfl, by (intro w hSw; (try dsimp only at hSw); first | (go_simp; done) | (go_simp; with_reducible rfl) | (go_simp; omega) | (go_simp; simp [*]; done))⟩) (by assumption) ?_; try simp only [Act.put, List.setIfInBounds_toArray, List.set_cons_zero, List.set_cons_succ]
                  refine wpAnyH_ready (rs := [13]) (by kernel_rfl) (by simp) ?_
                  refine AllReadyH.cons (o := { dst := none, op := _, type := _, pos := _, after := _, guard := _ }) rfl (fun K hK => ?_) AllReadyH.nil
                  go_simp
                  refine hK.out _ _ ⟨by rw [World.cell?_setCell_other _ _ _ _ (by simp [bne])]; exact e0, by rw [World.cell?_setCell_other _ _ _ _ (by simp [bne])]; exact e1⟩ (fun hHeld => ?_)
                  clear hK K
                  refine wpAnyH_done (by kernel_rfl) ?_ _
                  go_wp2_with fail
                  go_ret
                  have hl8 : (to_ ++ [a]).length = to_.length + 1 := by simp
                  have R9 := R_elder hR8 (p := ⟨b, 3, none⟩) (by show b < _; omega) (.slice A8 (to_.length + 1) c8)
                  have K9 := K8.set 3 (.slice A8 (to_.length + 1) c8) (by simp)
                  have gz := G4d.size
                  have G9 := grown_set (grown_more G5 hb8 (by omega)) 3 (.slice A8 (to_.length + 1) c8)
                  have hbb : b < (V.heap.size + 1) := by omega
                  exact ⟨rfl, ⟨A8, c8, by show Blk _ b [_, _, _, .slice A8 (to_ ++ [a]).length c8, _, _]; rw [hl8]; exact K9, hc8, toR_of R9 hbb⟩, G9⟩
              · go_simp
                refine hK.out _ _ ⟨cell_alloc' x0 _, cell_alloc' x1 _⟩ (fun hHeld => ?_)
                clear hK K
                have k3a := cell_alloc' k3 (.cells #[.string a.loc, .string a.dom] 49)
                refine wpAnyH_ready (rs := [5]) (by kernel_rfl) (by simp) ?_
                refine AllReadyH.cons (o := { dst := some 63, op := _, type := _, pos := _, after := _, guard := _ }) rfl (fun K hK => ?_) AllReadyH.nil
                go_simp
                refine hK.out _ _ ⟨cell_alloc' x0 _, cell_alloc' x1 _⟩ (fun hHeld => ?_)
                clear hK K
                refine wpAnyH_ready (rs := [6]) (by kernel_rfl) (by simp) ?_
                refine AllReadyH.cons (o := { dst := some 64, op := _, type := _, pos := _, after := _, guard := _ }) rfl (fun K hK => ?_) AllReadyH.nil
                go_simp
                go_at_call 64
                refine (cloneAddrs_calls A c to_ _ (hT.grown (grownA G4d (.cells #[.string a.loc, .string a.dom] 49))).now (by omega)).mono ?_
                rintro e w5 ⟨v5, rfl, hR5, hb5⟩
                have zz : (V.alloc (.cells #[.string a.loc, .string a.dom] 49)).heap.size = V.heap.size + 1 := by simp
                obtain ⟨A5, c5, rfl⟩ := Kd.R_slice hR5
                have K5 := (K4d.alloc (.cells #[.string a.loc, .string a.dom] 49)).below hb5 (by omega)
                have y0 := (hb5.cell (p := ⟨w1.heap.size, 0, none⟩) (by show w1.heap.size < _; omega)).trans (cell_alloc' x0 (.cells #[.string a.loc, .string a.dom] 49))
                have y1 := (hb5.cell (p := ⟨w1.heap.size, 1, none⟩) (by show w1.heap.size < _; omega)).trans (cell_alloc' x1 (.cells #[.string a.loc, .string a.dom] 49))
                have G5 := grown_more (grownA G4d (.cells #[.string a.loc, .string a.dom] 49)) hb5 (grownA G4d (.cells #[.string a.loc, .string a.dom] 49)).size
                have L5 := Kd.C_below (lit_addr V a) hb5
                have z5 := hb5.size
                (try simp only [Result.andThen])
                refine hK.out _ _ ⟨y0, y1⟩ (fun hHeld => ?_)
                clear hK K
                rw [zz] at hR5 z5
                refine wpAnyH_ready (rs := [9]) (by kernel_rfl) (by simp) ?_
                refine AllReadyH.cons (o := { dst := some 67, op := _, type := _, pos := _, after := _, guard := _ }) rfl (fun K hK => ?_) AllReadyH.nil
                refine rows_step rowAAddress (V.heap.size + 1) (by rfl) (.tmp 64) (.tmp 66) (by rfl) (.slice A5 to_.length c5) to_ [a] (some ⟨V.heap.size, 0, none⟩) 1 (by rfl) (by rfl) hR5 L5 z5 (by simp; omega) ?_
                intro v8 w8 hR8 hb8 hg8
                have K8 := (K5).below hb8 (by omega)
                have e0 := (hb8.cell (p := ⟨w1.heap.size, 0, none⟩) (by show w1.heap.size < _; omega)).trans y0
                have e1 := (hb8.cell (p := ⟨w1.heap.size, 1, none⟩) (by show w1.heap.size < _; omega)).trans y1
                refine hK.out _ _ ⟨e0, e1⟩ (fun hHeld => ?_)
                clear hK K
                obtain ⟨A8, c8, rfl, hc8, hC8⟩ := C_of hR8
                have k38 := K8.at 3 _ rfl
                have f38 := K8.free 3 _ rfl
                have l38 := K8.lt
                have bne : ¬ w1.heap.size = b := bn2
                refine wpAnyH_take (i := 10) (oi := { dst := some 68, op := _, type := _, pos := _, after := _, guard := _ }) (v := .pointer (some ⟨b, 0, none⟩)) rfl (by kernel_rfl) (by kernel_rfl) (by kernel_rfl) (fun _ _ _ h => h) (Or.inl ⟨by rfl, by (intro w hSw; (try dsimp only at hSw); first | (go_simp; done) | (go_simp; with_reducible rfl) | (go_simp; omega) | (go_simp; simp [*]; done))⟩) (by assumption) ?_; try simp only [Act.put, List.setIfInBounds_toArray, List.set_cons_zero, List.set_cons_succ]
                refine wpAnyH_take (i := 11) (oi := { dst := some 69, op := _, type := _, pos := _, after := _, guard := _ }) (v := .pointer (some ⟨b, 0, none⟩)) rfl (by kernel_rfl) (by kernel_rfl) (by kernel_rfl) (fun _ _ _ h => h) (Or.inl ⟨by rfl, by (intro w hSw; (try dsimp only at hSw); first | (go_simp; done) | (go_simp; with_reducible rfl) | (go_simp; omega) | (go_simp; simp [*]; done))⟩) (by assumption) ?_; try simp only [Act.put, List.setIfInBounds_toArray, List.set_cons_zero, List.set_cons_succ]
                refine wpAnyH_take (i := 12) (oi := { dst := some 70, op := _, type := _, pos := _, after := _, guard := _ }) (v := .pointer (some ⟨b, 3, none⟩)) rfl (by kernel_rfl) (by kernel_rfl) (by kernel_rfl) (fun _ _ _ h => h) (Or.inl ⟨by rfl, by (intro w hSw; (try dsimp only at hSw); first | (go_simp; done) | (go_simp; with_reducible rfl) | (go_simp; omega) | (go_simp; simp [*]; done))⟩) (by assumption) ?_; try simp only [Act.put, List.setIfInBounds_toArray, List.set_cons_zero, List.set_cons_succ]
                refine wpAnyH_ready (rs := [13]) (by kernel_rfl) (by simp) ?_
                refine AllReadyH.cons (o := { dst := none, op := _, type := _, pos := _, after := _, guard := _ }) rfl (fun K hK => ?_) AllReadyH.nil
                go_simp
                refine hK.out _ _ ⟨by rw [World.cell?_setCell_other _ _ _ _ (by simp [bne])]; exact e0, by rw [World.cell?_setCell_other _ _ _ _ (by simp [bne])]; exact e1⟩ (fun hHeld => ?_)
                clear hK K
                refine wpAnyH_done (by kernel_rfl) ?_ _
                go_wp2_with fail
                go_ret
                have hl8 : (to_ ++ [a]).length = to_.length + 1 := by simp
                have R9 := R_elder hR8 (p := ⟨b, 3, none⟩) (by show b < _; omega) (.slice A8 (to_.length + 1) c8)
                have K9 := K8.set 3 (.slice A8 (to_.length + 1) c8) (by simp)
                have gz := G4d.size
                have G9 := grown_set (grown_more G5 hb8 (by omega)) 3 (.slice A8 (to_.length + 1) c8)
                have hbb : b < (V.heap.size + 1) := by omega
                exact ⟨rfl, ⟨A8, c8, by show Blk _ b [_, _, _, .slice A8 (to_ ++ [a]).length c8, _, _]; rw [hl8]; exact K9, hc8, toR_of R9 hbb⟩, G9⟩
  · rw [if_neg h1]
    have i1 : (st != 2) = true := bne_iff_ne.mpr (by omega)
    have i2 : (st != 3) = true := bne_iff_ne.mpr (by omega)
    skip
    go_enter Tryd.func101, Tryd.ntmps101
    go_wp2_with fail
    refine (HA.out _ hm hg).mono ?_
    rintro e w1 ⟨x, rfl, hx, hb1⟩
    have hz1 := hb1.size
    have hB := hK.below hb1 hK.lt
    have b0 := hB.at 0 _ rfl
    have b3 := hB.at 3 _ rfl
    have g0 := hB.free 0 _ rfl
    have g3 := hB.free 3 _ rfl
    have bl := hB.lt
    have bn : ¬ b = w1.heap.size := by omega
    have bn2 : ¬ w1.heap.size = b := by omega
    go_wp2_with fail
    go_ret
    exact PostSes.same (s := ⟨st, fr, to_, tx, lg⟩) rfl ⟨A, c, hK, hc.out, hT⟩ (by repeat (first | exact Below.refl _ _ | apply below_alloc | apply pw_below_drewN | apply below_drew1 | (refine Below.setCell ?_ (by first | (simp; done) | (simp; omega) | omega) _) | (refine Below.trans ?_ (Below.mono hb1 (by first | (simp; done) | (simp; omega) | omega)))))
end Go.Proofs.YtijdghplfhfpaaaDoor.H

/- Lines: a line of a body. -/
namespace Go.Proofs.YtijdghplfhfpaaaDoor.H
open Go.RowKit Go.Proofs.YtijdghplfhfpaaaDoorW.PrintWords Go.Proofs.YtijdghplfhfpaaaDoorW.PrintLast Go.Proofs.YtijdghplfhfpaaaDoor.U
set_option linter.unusedVariables false
set_option linter.unusedSimpArgs false
/-- A line of a body without the dot ahead of it. -/
def undot (line : ByteArray) : ByteArray := ⟨(Lib.trimPrefix line.data.toList [46]).toArray⟩
def bodyV (s : Ses) (line : ByteArray) : Ses :=
  if 2000 < s.tx.size + (undot line).size + 2 then { s with lg := true }
  else if s.lg = true then s
  else { s with tx := s.tx ++ (undot line ++ ⟨#[13, 10]⟩) }
theorem undot_size (line : ByteArray) : (undot line).size ≤ line.size := by
  rw [size_list, size_list, undot]
  simp only [Lib.trimPrefix]
  split <;> simp
set_option maxHeartbeats 1000000 in
set_option maxRecDepth 100000 in
theorem body_calls (b : Nat) (s : Ses) (line : ByteArray) (w : World) (hs : SesAt w b s) (ht : s.tx.size ≤ 2000) (hl : line.size ≤ 1048576) :
    Calls Tryd.prog 66 #[.pointer (some ⟨b, 0, none⟩), .string line] w fun e w' => e = .returned (.tuple #[]) ∧ SesAt w' b (bodyV s line) ∧ w.grownBy w' (some b) := by
  have HT := fun w => Tryd.strings_TrimPrefix line ⟨#[46]⟩ w
  have hu := undot_size line
  obtain ⟨A, c, hK, hc, hT⟩ := hs
  unfold bodyV
  obtain ⟨st, fr, to_, tx, lg⟩ := s
  simp only at hK hc hT ht ⊢
  have hTp := fun w => (HT w)
  change ∀ w, Calls _ _ _ w fun e w' => e = .returned (.string (undot line)) ∧ w' = w at hTp
  clear HT
  generalize undot line = u at *
  have HT := Lib.hid hTp
  clear hTp
  replace hc := Lib.hid hc
  have b3 := hK.at 4 _ rfl
  have b4 := hK.at 5 _ rfl
  have g3 := hK.free 4 _ rfl
  have g4 := hK.free 5 _ rfl
  have bl := hK.lt
  by_cases h1 : 2000 < tx.size + u.size + 2
  · rw [if_pos h1]
    have i1 : (2000 : Int) < (tx.size : Int) + u.size + 2 := by omega
    skip
    go_enter Tryd.func66, Tryd.ntmps66
    go_wp2_with fail
    refine (HT.out _).mono ?_
    rintro e w1 ⟨rfl, rfl⟩
    go_wp2_with fail
    have hg := grown_set (World.grownBy.refl w1 (some b)) 5 (.bool true)
    go_end0
    exact ⟨rfl, ⟨A, c, hK.set 5 (.bool true) (by simp), hc.out, hT.grown hg⟩, hg⟩
  · rw [if_neg h1]
    have i1 : ¬ (2000 : Int) < (tx.size : Int) + u.size + 2 := by omega
    cases lg with
    | true =>
      rw [if_pos rfl]
      skip
      go_enter Tryd.func66, Tryd.ntmps66
      go_wp2_with fail
      refine (HT.out _).mono ?_
      rintro e w1 ⟨rfl, rfl⟩
      go_wp2_with fail
      go_end0
      exact ⟨rfl, ⟨A, c, hK, hc.out, hT⟩, World.grownBy.refl _ _⟩
    | false =>
      rw [if_neg (by simp)]
      skip
      go_enter Tryd.func66, Tryd.ntmps66
      go_wp2_with fail
      refine (HT.out _).mono ?_
      rintro e w1 ⟨rfl, rfl⟩
      go_wp2_with fail
      go_end0
      refine ⟨rfl, ⟨A, c, hK.set 4 _ (by simp), hc.out, hT.grown (grown_set (World.grownBy.refl w1 (some b)) 4 _)⟩, grown_set (World.grownBy.refl w1 (some b)) 4 _⟩
end Go.Proofs.YtijdghplfhfpaaaDoor.H

/- Lines: what a command does: the program's and the reference's ways are one. No program in sight. -/
namespace Go.Proofs.YtijdghplfhfpaaaDoor.H
open Go.RowKit Go.Proofs.YtijdghplfhfpaaaDoorW.PrintWords Go.Proofs.YtijdghplfhfpaaaDoorW.PrintLast Go.Proofs.YtijdghplfhfpaaaDoor.U
set_option linter.unusedVariables false
set_option linter.unusedSimpArgs false
def noSes (st : Int) : Ses := ⟨st, ⟨⟨#[]⟩, ⟨#[]⟩⟩, [], ⟨#[]⟩, false⟩
def wordV (s : Ses) (L : ByteArray) : Ses × Int :=
  if L = (⟨#[100, 97, 116, 97]⟩ : ByteArray) then (if s.st = 3 then ({ s with st := 4 }, 354) else (s, 503))
  else if L = (⟨#[114, 115, 101, 116]⟩ : ByteArray) then (noSes (min s.st 1), 250)
  else if L = (⟨#[110, 111, 111, 112]⟩ : ByteArray) then (s, 250)
  else if L = (⟨#[113, 117, 105, 116]⟩ : ByteArray) then (noSes 5, 221)
  else (s, 500)
def lhloV (s : Ses) (t : ByteArray) : Ses × Int := if addrFault ⟨#[120]⟩ t = 0 then (noSes 1, 250) else (s, 501)
def cmdV (s : Ses) (kn : List ByteArray) (line : ByteArray) : Ses × Int :=
  if 300 < line.size then (s, 500) else
  match behV line (⟨#[76, 72, 76, 79, 32]⟩ : ByteArray) with
  | some t => lhloV s t
  | none => match behV line (⟨#[77, 65, 73, 76, 32, 70, 82, 79, 77, 58]⟩ : ByteArray) with
    | some t => mailV s t
    | none => match behV line (⟨#[82, 67, 80, 84, 32, 84, 79, 58]⟩ : ByteArray) with
      | some t => rcptV s kn t
      | none => wordV s (lowS line)
/-- The reference's ways. -/
def mailR (s : Ses) (t : ByteArray) : Ses × Int :=
  if s.st = 1 then (match angV t with | some a => (⟨2, a, [], ⟨#[]⟩, false⟩, 250) | none => (s, 501)) else (s, 503)
def rcptR (s : Ses) (kn : List ByteArray) (t : ByteArray) : Ses × Int :=
  if s.st = 2 ∨ s.st = 3 then
    match angV t with
    | none => (s, 501)
    | some a =>
      if hasT kn a.loc = true then
        if hasA s.to_ a = true then (s, 250)
        else if 5 ≤ s.to_.length then (s, 452)
        else (⟨3, s.fr, s.to_ ++ [a], ⟨#[]⟩, false⟩, 250)
      else (s, 550)
  else (s, 503)
def wordR (s : Ses) (L : ByteArray) : Ses × Int :=
  if L = (⟨#[100, 97, 116, 97]⟩ : ByteArray) then (if s.st = 3 then ({ s with st := 4 }, 354) else (s, 503))
  else if L = (⟨#[114, 115, 101, 116]⟩ : ByteArray) then (if s.st = 0 then (s, 250) else (noSes 1, 250))
  else if L = (⟨#[110, 111, 111, 112]⟩ : ByteArray) then (s, 250)
  else if L = (⟨#[113, 117, 105, 116]⟩ : ByteArray) then (noSes 5, 221)
  else (s, 500)
def cmdR (s : Ses) (kn : List ByteArray) (line : ByteArray) : Ses × Int :=
  if 300 < line.size then (s, 500) else
  match behV line (⟨#[76, 72, 76, 79, 32]⟩ : ByteArray) with
  | some t => lhloV s t
  | none => match behV line (⟨#[77, 65, 73, 76, 32, 70, 82, 79, 77, 58]⟩ : ByteArray) with
    | some t => mailR s t
    | none => match behV line (⟨#[82, 67, 80, 84, 32, 84, 79, 58]⟩ : ByteArray) with
      | some t => rcptR s kn t
      | none => wordR s (lowS line)
theorem empty_of {t : ByteArray} (h : t.size = 0) : t = ⟨#[]⟩ := ByteArray.ext (Array.eq_empty_of_size_eq_zero h)
def okSes (s : Ses) : Prop := sessMay s.st s.fr s.to_ s.tx s.lg
theorem cmd_law {s : Ses} (h : okSes s) (h4 : s.st ≠ 4) (kn : List ByteArray) (line : ByteArray) : cmdR s kn line = cmdV s kn line := by
  obtain ⟨st, fr, to_, tx, lg⟩ := s
  obtain ⟨h0, h5, hl, ht, hf, hto, hb⟩ := h
  simp only at h0 h5 hl ht hf hto hb h4
  have hb : tx.size = 0 ∧ lg = false := by
    rcases hb with h | h
    · exact absurd h h4
    · exact h
  obtain ⟨hx, rfl⟩ := hb
  obtain rfl := empty_of hx
  have hm : ∀ t, mailR ⟨st, fr, to_, ⟨#[]⟩, false⟩ t = mailV ⟨st, fr, to_, ⟨#[]⟩, false⟩ t := by
    intro t
    unfold mailR mailV
    simp only
    by_cases h1 : st = 1
    · subst h1
      rw [if_neg (by omega)] at hto
      obtain rfl := List.length_eq_zero_iff.mp hto
      rfl
    · rw [if_neg h1, if_neg h1]
  have hr : ∀ t, rcptR ⟨st, fr, to_, ⟨#[]⟩, false⟩ kn t = rcptV ⟨st, fr, to_, ⟨#[]⟩, false⟩ kn t := by
    intro t
    unfold rcptR rcptV
    simp only
    by_cases h6 : to_.length = 5
    · have h7 : 5 ≤ to_.length := by omega
      simp only [if_pos h6, if_pos h7]
      try (cases angV t <;> rfl)
    · have h7 : ¬ 5 ≤ to_.length := by omega
      simp only [if_neg h6, if_neg h7]
      try (cases angV t <;> rfl)
  have hw : ∀ L, wordR ⟨st, fr, to_, ⟨#[]⟩, false⟩ L = wordV ⟨st, fr, to_, ⟨#[]⟩, false⟩ L := by
    intro L
    unfold wordR wordV
    simp only
    by_cases h1 : st = 0
    · subst h1
      rw [if_neg (by omega)] at hf hto
      subst hf
      obtain rfl := List.length_eq_zero_iff.mp hto
      rfl
    · rw [if_neg h1, show min st 1 = 1 by omega]
  unfold cmdR cmdV
  simp only [hm, hr, hw]
theorem undot_eq (line : ByteArray) : undot line = if 0 < line.size ∧ nx line 0 = 46 then line.extract 1 line.size else line := by
  have hz := size_list line
  have hn := nx_list line 0
  refine byte_ext ?_
  have e : (undot line).data.toList = Lib.trimPrefix line.data.toList [46] := by unfold undot; simp
  have e2 : (line.extract 1 line.size).data.toList = line.data.toList.drop 1 := by
    rw [ext_list, List.take_of_length_le]; rw [List.length_drop, ← hz]; exact Nat.le_refl _
  rw [e]
  by_cases h : 0 < line.size ∧ nx line 0 = 46
  · rw [if_pos h, e2]
    obtain ⟨h1, h2⟩ := h
    generalize line.data.toList = l at *
    cases l with
    | nil => rw [hz] at h1; exact absurd h1 (by simp)
    | cons c r =>
      rw [hn] at h2
      have hc : c = 46 := by simp at h2; exact UInt8.toNat_inj.mp (by show c.toNat = 46; omega)
      subst hc
      rfl
  · rw [if_neg h]
    generalize line.data.toList = l at *
    cases l with
    | nil => rfl
    | cons c r =>
      have hc : ¬ c = 46 := by
        rintro rfl
        exact h ⟨by rw [hz]; simp, by rw [hn]; rfl⟩
      have : Lib.hasPrefix (c :: r) [46] = false := by
        simp [Lib.hasPrefix, List.isPrefixOf, Ne.symm hc]
      rw [Lib.trimPrefix, this]; rfl
noncomputable def lineV (s : Ses) (kn : List ByteArray) (line : ByteArray) : Ses × Int × List ALetter × Int :=
  open Classical in if okSes s then
    if s.st = 5 then (s, 0, [], 0)
    else if s.st = 4 then (if line = ⟨#[46]⟩ then (noSes 1, 0, s.to_.map fun a => ⟨s.fr, a, s.tx⟩, 0) else (bodyV s line, 0, [], 0))
    else ((cmdV s kn line).1, (cmdV s kn line).2, [], 0)
  else (noSes 0, 0, [], 11)
end Go.Proofs.YtijdghplfhfpaaaDoor.H
