/- Letters parsed: letter.Parse: the walk. -/
import Derived.Test.YtpeenmbonhijmaaDoorLpR
namespace Go.Proofs.YtpeenmbonhijmaaDoor.H
open Go.RowKit Go.Proofs.YtpeenmbonhijmaaDoorW.PrintWords Go.Proofs.YtpeenmbonhijmaaDoorW.PrintLast Go.Proofs.YtpeenmbonhijmaaDoorW.PrintMore Go.Proofs.YtpeenmbonhijmaaDoor.U
set_option linter.unusedVariables false
set_option linter.unusedSimpArgs false
def strSz : Value → Nat
  | .string x => x.size
  | _ => 0
/-- The fields whose first k values have been trimmed. -/
def half (l : List AField) (k : Nat) : List AField := (l.take k).map trimF ++ l.drop k
theorem half_zero (l : List AField) : half l 0 = l := rfl
theorem half_end (l : List AField) : half l l.length = l.map trimF := by
  rw [half, List.take_length, List.drop_length, List.append_nil]
theorem half_len (l : List AField) (k : Nat) (h : k ≤ l.length) : (half l k).length = l.length := by
  rw [half, List.length_append, List.length_map, List.length_take, List.length_drop]; omega
theorem half_get (l : List AField) (k : Nat) (h : k < l.length) (h2 : k < (half l k).length) : (half l k)[k] = l[k] := by
  have hl : ((l.take k).map trimF).length = k := by rw [List.length_map, List.length_take]; omega
  have h3 : (half l k)[k]? = l[k]? := by
    rw [half, List.getElem?_append_right (by omega), hl, Nat.sub_self, List.getElem?_drop, Nat.add_zero]
  rw [List.getElem?_eq_getElem h, List.getElem?_eq_getElem h2] at h3
  exact Option.some.inj h3
theorem half_set (l : List AField) (k : Nat) (h : k < l.length) : (half l k).set k ⟨l[k].name, trimT l[k].value⟩ = half l (k + 1) := by
  have hl : ((l.take k).map trimF).length = k := by rw [List.length_map, List.length_take]; omega
  rw [half, List.set_append_right _ _ (by omega), hl, Nat.sub_self, List.drop_eq_getElem_cons h, List.set_cons_zero, half, List.take_succ_eq_append_getElem h, List.map_append, List.append_assoc]
  rfl
set_option maxHeartbeats 8000000 in
set_option maxRecDepth 100000 in
theorem parse_calls (s : ByteArray) (m : Int) (w : World) (hs : s.size ≤ 1048576) (hm : w.cell? ⟨0, 0, none⟩ = some (.int .i64 m)) (hg : 0 < w.heap.size) :
    Calls Tryd.prog 23 #[.string s] w (PostParse w (parseV s)) := by
  unfold parseV
  by_cases hbig : 2000 < s.size
  · rw [if_pos hbig]
    have hbig' : (2000 : Int) < (s.size : Int) := by omega
    have k0 := Blk.made w #[.slice none 0 0, .string ⟨#[]⟩] 41
    have q0 := (k0).at 0 _ rfl
    have q1 := (k0).at 1 _ rfl
    have p0 := (k0).free 0 _ rfl
    have p1 := (k0).free 1 _ rfl
    clear k0
    go_enter Tryd.func23, Tryd.ntmps23
    go_wp2_with fail
    refine bodyPost_ret (v := .tuple #[.agg #[.slice none 0 0, .string ⟨#[]⟩], .int .i64 0, .int .i64 1]) (by simp [results, Tryd.results24, go_sem, *]) rfl ?_
    exact ⟨_, rfl, Kd.R_nil _ _ _ _ _, (by repeat (first | exact Below.refl _ _ | apply below_alloc | apply pw_below_drewN | apply below_drew1 | (refine Below.setCell ?_ (by first | (simp; done) | (simp; omega) | omega) _) ))⟩
  rw [if_neg hbig]
  have hbig' : ¬ (2000 : Int) < (s.size : Int) := by omega
  generalize hR : parseGo s 0 0 [] = R
  have hmax := Lib.hid (fun wr (hB : Below w.heap.size w wr) => cell_below hB hm hg)
  have hall : s.extract 0 s.size = s := by simp
  go_enter Tryd.func23, Tryd.ntmps23
  go_wp2_with fail
  go_loopw [0, 6] (fun v vl wr => ∃ (i ln : Nat) (acc : List AField) (v5 : Value), i ≤ s.size ∧ ln ≤ i ∧ v = .string (s.extract i s.size) ∧ vl = .int .i64 ln ∧ Kd.R kAField 100 wr (w.heap.size + 2) (fun _ => True) v5 acc ∧ acc.length ≤ 30 ∧ (∀ x ∈ acc, x.value.size ≤ i) ∧ Blk wr w.heap.size [.slice none 0 0, .string ⟨#[]⟩] ∧ Blk wr (w.heap.size + 1) [v5, .string ⟨#[]⟩] ∧ parseGo s i ln acc = R ∧ Below w.heap.size w wr) (fun v _ _ => strSz v)
  case atStart => exact ⟨0, 0, [], .slice none 0 0, Nat.zero_le _, Nat.le_refl _, by rw [hall], rfl, Kd.R_nil _ _ _ _ _, by decide, (fun x hx => by cases hx), (Blk.made w #[.slice none 0 0, .string ⟨#[]⟩] _).alloc _, Blk.made_at _ _ _ (by simp), hR, (by repeat (first | exact Below.refl _ _ | apply below_alloc | apply pw_below_drewN | apply below_drew1 | (refine Below.setCell ?_ (by first | (simp; done) | (simp; omega) | omega) _) ))⟩
  case round =>
    clear hR hall
    obtain ⟨i, ln, acc, v5, hi, hln, rfl, rfl, hRow, hacc, hval, hblk, hmb, hR, hB⟩ := hrel
    have hzw := hblk.lt
    have hzm := hmb.lt
    obtain ⟨A0, cap0, rfl⟩ := Kd.R_slice hRow
    have hmr := hmax.out wr hB
    have i0 : (0 : Int) ≤ (i : Int) := by omega
    have hxs := ext_size (s := s) (k := i) (e := s.size) (Nat.le_refl _)
    rcases lineV_in s i with hE | ⟨e, hE, hie, hes⟩
    · rw [parse_open hE] at hR
      have HL := Lib.hid (fun w hm => cutOpen_calls s i m w hs hm hE)
      subst hR
      clear hE
      have q0 := (hblk).at 0 _ rfl
      have q1 := (hblk).at 1 _ rfl
      have p0 := (hblk).free 0 _ rfl
      have p1 := (hblk).free 1 _ rfl
      go_wp2_with fail
      refine (HL.out _ hmr).mono ?_
      rintro e w1 ⟨rfl, n1, rfl⟩
      go_wp2_with fail
      refine bodyPost_ret (v := .tuple #[.agg #[.slice none 0 0, .string ⟨#[]⟩], .int .i64 ln, .int .i64 4]) (by simp [results, Tryd.results24, go_sem, *]) rfl ?_
      exact ⟨_, rfl, Kd.R_nil _ _ _ _ _, (by repeat (first | exact Below.refl _ _ | apply below_alloc | apply pw_below_drewN | apply below_drew1 | (refine Below.setCell ?_ (by first | (simp; done) | (simp; omega) | omega) _) | exact hB))⟩
    · have HL := Lib.hid (fun w hm => cutLine_calls s i e m w hs hm hE hie hes)
      have hsz := ext_size (s := s) (k := i) (e := e) (by omega)
      have hxe := ext_size (s := s) (k := e + 2) (e := s.size) (Nat.le_refl _)
      go_wp2_with fail
      refine (HL.out _ hmr).mono ?_
      rintro e w1 ⟨rfl, n1, hw1⟩
      have hb1 : Below wr.heap.size wr w1 := by rw [hw1]; exact (by repeat (first | exact Below.refl _ _ | apply below_alloc | apply pw_below_drewN | apply below_drew1 | (refine Below.setCell ?_ (by first | (simp; done) | (simp; omega) | omega) _) ))
      have hB1 : Below w.heap.size w w1 := hB.trans (hb1.mono (by omega))
      have hblk1 := hblk.below hb1 hzw
      have hmb1 := hmb.below hb1 hzm
      have hRow1 := Kd.R_below hRow hb1
      have hz1 := hblk1.lt
      have hzm1 := hmb1.lt
      have hmr1 := hmax.out w1 hB1
      clear hw1 hblk hmb hRow hmr hB hb1 n1
      by_cases hemp : e = i
      · subst hemp
        have hq := parse_end (ln := ln) (l := acc) hE
        rw [hR] at hq
        subst hq
        have hLe := line_none (x := s.extract e e) (by omega)
        clear hE hR
        generalize hbd : s.extract (e + 2) s.size = body at *
        have hbd := Lib.hid hbd
        generalize s.extract e e = L at *
        have q0 := (hblk1).at 0 _ rfl
        have q1 := (hblk1).at 1 _ rfl
        have p0 := (hblk1).free 0 _ rfl
        have p1 := (hblk1).free 1 _ rfl
        have m0 := hmb1.at 0 _ rfl
        have m1 := hmb1.at 1 _ rfl
        have mf0 := hmb1.free 0 _ rfl
        have mf1 := hmb1.free 1 _ rfl
        go_wp2_with fail
        obtain ⟨W0, rfl⟩ : ∃ W0 : World, W0 = w1 := ⟨_, rfl⟩
        go_loopw [68] (fun v wr => ∃ (k : Nat), k ≤ acc.length ∧ v = .int .i64 k ∧ Blk wr w.heap.size [.slice none 0 0, .string ⟨#[]⟩] ∧ Blk wr (w.heap.size + 1) [.slice A0 acc.length cap0, .string body] ∧ Kd.R kAField 100 wr (w.heap.size + 2) (fun _ => True) (.slice A0 acc.length cap0) (half acc k) ∧ Below w.heap.size w wr) (fun v _ => acc.length - (intOf v).toNat)
        case atStart => exact ⟨0, Nat.zero_le _, rfl, hblk1.other (by omega) _, hmb1.set 1 _ (by simp), by rw [half_zero]; exact R_elder hRow1 (by simp) _, Below.setCell hB1 (by simp) _⟩
        case round =>
          clear q0 q1 p0 p1 m0 m1 mf0 mf1 hblk1 hmb1 hRow1 hmr1 hB1 hz1 hzm1
          obtain ⟨k, hk, rfl, hb2, hmb2, hR2, hB2⟩ := hrel
          have hz2 := hb2.lt
          have hzm2 := hmb2.lt
          by_cases hlt : k < acc.length
          · have hhl := half_len acc k hk
            have hhg := half_get acc k hlt (by omega)
            have hhs := half_set acc k hlt
            have hvs := hval acc[k] (List.getElem_mem _)
            obtain ⟨g, cap, hv, hg1, hg2⟩ := fields_at hR2 (by omega)
            rw [hhl] at hv
            injection hv with hv1 hv2 hv3
            clear hv2
            subst hv1
            subst hv3
            obtain ⟨y0, y1, z0, z1⟩ := fields_cells hR2 k (by omega)
            have hst := fun w' (h : Kd.R kAField 100 w' (w.heap.size + 2) (fun _ => True) (.slice (some ⟨g, 0, none⟩) acc.length cap0) (half acc k)) => (fields_set h k (by omega) (trimT acc[k].value)).1
            rw [hhg] at y0 y1 hst
            rw [hhs] at hst
            have HT := Lib.hid (fun w => trim_calls acc[k].value w (by omega))
            have hst := Lib.hid hst
            have hnl : k * 2 + 1 < k * 2 + 2 := by omega
            have j0 : (0 : Int) ≤ (k : Int) := by omega
            have j1 : (k : Int) < (acc.length : Int) := by omega
            have g1 : ¬ g = w.heap.size + 1 := by omega
            have g2 : ¬ g = w.heap.size := by omega
            clear hhl hhg hhs
            generalize acc[k].value = vl at *
            generalize acc[k].name = nm at *
            have m0 := cell_drew' (hmb2.at 0 _ rfl)
            have y1d := cell_drew' y1
            have hR2d := Kd.R_drew hR2
            have hb2d := hb2.drew
            have hmb2d := hmb2.drew
            have hzd : w.heap.size + 1 < wr.drew.heap.size := by simpa using hzm2
            have hgd : g < wr.drew.heap.size := by simpa using hg2
            have hBd : Below w.heap.size w wr.drew := (by repeat (first | exact Below.refl _ _ | apply below_alloc | apply pw_below_drewN | apply below_drew1 | (refine Below.setCell ?_ (by first | (simp; done) | (simp; omega) | omega) _) | exact hB2))
            have hfz : wr.drew.frozen? ⟨g, k * 2 + 1, none⟩ = false := by simpa using z1
            go_wp2_with fail
            refine wp_region_held_drew (S := fun w' => w'.cell? ⟨w.heap.size + 1, 0, none⟩ = some (.slice (some ⟨g, 0, none⟩) acc.length cap0)) (by kernel_rfl) ?_ (fun hHeld => ?_)
            · exact m0
            refine wpAnyH_take (i := 0) (oi := { dst := some 71, op := _, type := _, pos := _, after := _, guard := _ }) (v := .pointer (some ⟨w.heap.size + 1, 0, none⟩)) rfl (by kernel_rfl) (by kernel_rfl) (by kernel_rfl) (fun _ _ _ h => h) (Or.inl ⟨by rfl, by (intro w hSw; (try dsimp only at hSw); first | (go_simp; done) | (go_simp; with_reducible rfl) | (go_simp; omega) | (go_simp; simp [*]; done))⟩) (by assumption) ?_; try simp only [Act.put, List.setIfInBounds_toArray, List.set_cons_zero, List.set_cons_succ]
            refine wpAnyH_take (i := 1) (oi := { dst := some 72, op := _, type := _, pos := _, after := _, guard := _ }) (v := .slice (some ⟨g, 0, none⟩) acc.length cap0) rfl (by kernel_rfl) (by kernel_rfl) (by kernel_rfl) (fun _ _ _ h => h) (Or.inl ⟨by rfl, by (intro w hSw; (try dsimp only at hSw); first | (go_simp; done) | (go_simp; with_reducible rfl) | (go_simp; omega) | (go_simp; simp [*]; done))⟩) (by assumption) ?_; try simp only [Act.put, List.setIfInBounds_toArray, List.set_cons_zero, List.set_cons_succ]
            refine wpAnyH_take (i := 2) (oi := { dst := some 73, op := _, type := _, pos := _, after := _, guard := _ }) (v := .int .i64 k) rfl (by kernel_rfl) (by kernel_rfl) (by kernel_rfl) (fun _ _ _ h => h) (Or.inl ⟨by rfl, by (intro w hSw; (try dsimp only at hSw); first | (go_simp; done) | (go_simp; with_reducible rfl) | (go_simp; omega) | (go_simp; simp [*]; done))⟩) (by assumption) ?_; try simp only [Act.put, List.setIfInBounds_toArray, List.set_cons_zero, List.set_cons_succ]
            refine wpAnyH_take (i := 3) (oi := { dst := some 74, op := _, type := _, pos := _, after := _, guard := _ }) (v := .pointer (some ⟨w.heap.size + 1, 0, none⟩)) rfl (by kernel_rfl) (by kernel_rfl) (by kernel_rfl) (fun _ _ _ h => h) (Or.inl ⟨by rfl, by (intro w hSw; (try dsimp only at hSw); first | (go_simp; done) | (go_simp; with_reducible rfl) | (go_simp; omega) | (go_simp; simp [*]; done))⟩) (by assumption) ?_; try simp only [Act.put, List.setIfInBounds_toArray, List.set_cons_zero, List.set_cons_succ]
            refine wpAnyH_take (i := 4) (oi := { dst := some 75, op := _, type := _, pos := _, after := _, guard := _ }) (v := .slice (some ⟨g, 0, none⟩) acc.length cap0) rfl (by kernel_rfl) (by kernel_rfl) (by kernel_rfl) (fun _ _ _ h => h) (Or.inl ⟨by rfl, by (intro w hSw; (try dsimp only at hSw); first | (go_simp; done) | (go_simp; with_reducible rfl) | (go_simp; omega) | (go_simp; simp [*]; done))⟩) (by assumption) ?_; try simp only [Act.put, List.setIfInBounds_toArray, List.set_cons_zero, List.set_cons_succ]
            refine wpAnyH_take (i := 5) (oi := { dst := some 76, op := _, type := _, pos := _, after := _, guard := _ }) (v := .int .i64 k) rfl (by kernel_rfl) (by kernel_rfl) (by kernel_rfl) (fun _ _ _ h => h) (Or.inl ⟨by rfl, by (intro w hSw; (try dsimp only at hSw); first | (go_simp; done) | (go_simp; with_reducible rfl) | (go_simp; omega) | (go_simp; simp [*]; done))⟩) (by assumption) ?_; try simp only [Act.put, List.setIfInBounds_toArray, List.set_cons_zero, List.set_cons_succ]
            refine wpAnyH_take (i := 6) (oi := { dst := some 77, op := _, type := _, pos := _, after := _, guard := _ }) (v := .pointer (some ⟨g, k * 2, none⟩)) rfl (by kernel_rfl) (by kernel_rfl) (by kernel_rfl) (fun _ _ _ h => h) (Or.inl ⟨by rfl, by (intro w hSw; (try dsimp only at hSw); first | (go_simp; done) | (go_simp; with_reducible rfl) | (go_simp; omega) | (go_simp; simp [*]; done))⟩) (by assumption) ?_; try simp only [Act.put, List.setIfInBounds_toArray, List.set_cons_zero, List.set_cons_succ]
            refine wpAnyH_take (i := 7) (oi := { dst := some 78, op := _, type := _, pos := _, after := _, guard := _ }) (v := .pointer (some ⟨g, k * 2 + 1, none⟩)) rfl (by kernel_rfl) (by kernel_rfl) (by kernel_rfl) (fun _ _ _ h => h) (Or.inl ⟨by rfl, by (intro w hSw; (try dsimp only at hSw); first | (go_simp; done) | (go_simp; with_reducible rfl) | (go_simp; omega) | (go_simp; simp [*]; done))⟩) (by assumption) ?_; try simp only [Act.put, List.setIfInBounds_toArray, List.set_cons_zero, List.set_cons_succ]


            refine wpAnyH_ready (rs := [8]) (by kernel_rfl) (by simp) ?_
            refine AllReadyH.cons (o := { dst := some 79, op := _, type := _, pos := _, after := _, guard := _ }) rfl (fun K hK => ?_) AllReadyH.nil
            go_simp
            refine hK.out _ _ m0 (fun hHeld => ?_)
            clear hK K
            refine wpAnyH_ready (rs := [9]) (by kernel_rfl) (by simp) ?_
            refine AllReadyH.cons (o := { dst := some 80, op := _, type := _, pos := _, after := _, guard := _ }) rfl (fun K hK => ?_) AllReadyH.nil
            go_simp
            go_at_call 65
            refine (HT.out _).mono ?_
            rintro x w3 ⟨rfl, hb3⟩
            have m3 := (hb3.cell (p := ⟨w.heap.size + 1, 0, none⟩) hzd).trans m0
            have y3 := (hb3.cell (p := ⟨g, k * 2 + 1, none⟩) hgd).trans y1d
            have z3 := (hb3.frozen (p := ⟨g, k * 2 + 1, none⟩) hgd).trans hfz
            go_wp2_with fail
            refine hK.out _ _ m3 (fun hHeld => ?_)
            clear hK K
            refine wpAnyH_take (i := 10) (oi := { dst := some 81, op := _, type := _, pos := _, after := _, guard := _ }) (v := .pointer (some ⟨g, k * 2, none⟩)) rfl (by kernel_rfl) (by kernel_rfl) (by kernel_rfl) (fun _ _ _ h => h) (Or.inl ⟨by rfl, by (intro w hSw; (try dsimp only at hSw); first | (go_simp; done) | (go_simp; with_reducible rfl) | (go_simp; omega) | (go_simp; simp [*]; done))⟩) (by assumption) ?_; try simp only [Act.put, List.setIfInBounds_toArray, List.set_cons_zero, List.set_cons_succ]
            refine wpAnyH_take (i := 11) (oi := { dst := some 82, op := _, type := _, pos := _, after := _, guard := _ }) (v := .pointer (some ⟨g, k * 2 + 1, none⟩)) rfl (by kernel_rfl) (by kernel_rfl) (by kernel_rfl) (fun _ _ _ h => h) (Or.inl ⟨by rfl, by (intro w hSw; (try dsimp only at hSw); first | (go_simp; done) | (go_simp; with_reducible rfl) | (go_simp; omega) | (go_simp; simp [*]; done))⟩) (by assumption) ?_; try simp only [Act.put, List.setIfInBounds_toArray, List.set_cons_zero, List.set_cons_succ]
            refine wpAnyH_ready (rs := [12]) (by kernel_rfl) (by simp) ?_
            refine AllReadyH.cons (o := { dst := none, op := _, type := _, pos := _, after := _, guard := _ }) rfl (fun K hK => ?_) AllReadyH.nil
            go_simp
            refine hK.out _ _ (cell_other' m3 (by simp; omega) _) (fun hHeld => ?_)
            clear hK K
            refine wpAnyH_done (by kernel_rfl) ?_ _
            go_wp2_with fail
            go_roundw
            case rel => exact ⟨k + 1, hlt, by go_num, (hb2d.below hb3 (by omega)).other g2 _, (hmb2d.below hb3 (by omega)).other g1 _, hst.out _ (Kd.R_below hR2d hb3), Below.setCell (hBd.trans (hb3.mono (by omega))) (show w.heap.size ≤ g by omega) _⟩
            case measure => simp [intOf]; omega
          · obtain rfl : k = acc.length := by omega
            rw [half_end] at hR2
            have k1 : ¬ ((acc.length : Int) < (acc.length : Int)) := by omega
            have q0 := (hb2).at 0 _ rfl
            have q1 := (hb2).at 1 _ rfl
            have p0 := (hb2).free 0 _ rfl
            have p1 := (hb2).free 1 _ rfl
            have m0 := hmb2.at 0 _ rfl
            have m1 := hmb2.at 1 _ rfl
            have n1 : ¬ w.heap.size = w.heap.size + 1 := by omega
            have n2 : ¬ w.heap.size + 1 = w.heap.size := by omega
            go_wp2_with fail
            refine bodyPost_ret (v := .tuple #[.agg #[.slice A0 acc.length cap0, .string body], .int .i64 0, .int .i64 0]) (by simp [results, Tryd.results23, go_sem, *]) rfl ?_
            have hbd := hbd.out
            subst hbd
            exact ⟨_, rfl, Kd.R_lower (R_elder (R_elder hR2 (by first | (simp; done) | (simp; omega)) _) (by first | (simp; done) | (simp; omega)) _) (by omega), (by repeat (first | exact Below.refl _ _ | apply below_alloc | apply pw_below_drewN | apply below_drew1 | (refine Below.setCell ?_ (by first | (simp; done) | (simp; omega) | omega) _) | exact hB2))⟩
      · have his : i < s.size := by omega
        have hl0 : 0 < (s.extract i e).size := by omega
        have hl1 : (0 : Int) < ((s.extract i e).size : Int) := by omega
        have hc0 : (s.extract i e)[0] = s[i] := by rw [ByteArray.getElem_extract]; rfl
        have hLe := line_some hl0
        have hnx := nx_in his
        rw [← hc0] at hnx
        by_cases hb : nx s i = 32 ∨ nx s i = 9
        · by_cases hb2 : nx s i = 32
          · have c1 : (((s.extract i e)[0].toNat : Int) == 32) = true := by rw [beq_iff_eq]; omega
            clear hb2
            by_cases hne : acc = []
            · have hb : ¬ ((nx s i = 32 ∨ nx s i = 9) ∧ acc ≠ []) := fun h => h.2 hne
              have hal0 : acc.length = 0 := by rw [hne]; rfl
              have hal1 : ¬ (0 : Int) < (acc.length : Int) := by omega
              have hal2 := Lib.hid hal0
              clear hne hal0 hnx hc0
              have hcge := span_ge notColon s i hi
              have hpn := fun c hc hn => parse_name (ln := ln) (l := acc) (c := c) hE (by omega) hes hb hc hn
              have hpy := fun c hc hn hl => parse_many (ln := ln) (l := acc) (c := c) hE (by omega) hes hb hc hn hl
              have hpx := fun c hc hn hl => parse_next (ln := ln) (l := acc) (c := c) hE (by omega) hes hb hc hn hl
              have hsp := colon_line s i e hie (by omega)
              rw [hR] at hpn hpy hpx
              generalize hcD : spanEnd notColon s i = c at *
              clear hR hE hb
              by_cases hec : e ≤ c
              · rw [if_pos hec] at hsp
                have HC := Lib.hid (fun w hm => cutNone_calls (s.extract i e) m w (by omega) hm (by omega))
                have hq := hpn c rfl (.inl hec)
                subst hq
                clear hpn hpy hpx hec hcD hsp
                have q0 := (hblk1).at 0 _ rfl
                have q1 := (hblk1).at 1 _ rfl
                have p0 := (hblk1).free 0 _ rfl
                have p1 := (hblk1).free 1 _ rfl
                have m0 := hmb1.at 0 _ rfl
                have m1 := hmb1.at 1 _ rfl
                have mf0 := hmb1.free 0 _ rfl
                have mf1 := hmb1.free 1 _ rfl
                go_wp2_with fail
                refine (HC.out _ hmr1).mono ?_
                rintro x w2 ⟨rfl, n2, rfl⟩
                go_wp2_with fail
                refine bodyPost_ret (v := .tuple #[.agg #[.slice none 0 0, .string ⟨#[]⟩], .int .i64 ln, .int .i64 3]) (by simp [results, Tryd.results24, go_sem, *]) rfl ?_
                exact ⟨_, rfl, Kd.R_nil _ _ _ _ _, (by repeat (first | exact Below.refl _ _ | apply below_alloc | apply pw_below_drewN | apply below_drew1 | (refine Below.setCell ?_ (by first | (simp; done) | (simp; omega) | omega) _) | exact hB1))⟩
              · obtain ⟨d, rfl⟩ : ∃ d, c = i + d := ⟨c - i, by omega⟩
                rw [if_neg hec, show i + d - i = d by omega] at hsp
                have HC := fun w hm => cutColon_calls (s.extract i e) m w (by omega) hm (by omega)
                have hN : (s.extract i e).extract 0 d = s.extract i (i + d) := ext_ext s (by omega) (by omega)
                have hV : (s.extract i e).extract (d + 1) (s.extract i e).size = s.extract (i + d + 1) e := by rw [hsz, ext_ext s (by omega) (by omega)]; congr 1; omega
                rw [hsp, hN, hV] at HC
                have HC := Lib.hid HC
                have HM := fun w => name_calls (s.extract i (i + d)) w (by rw [ext_size (by omega)]; omega)
                have hvz : (s.extract (i + d + 1) e).size ≤ e + 2 := by rw [ext_size (by omega)]; omega
                cases hnm : nameOk (s.extract i (i + d)) with
                | false =>
                  have hq := hpn (i + d) rfl (.inr hnm)
                  subst hq
                  rw [hnm] at HM
                  have HM := Lib.hid HM
                  clear hpn hpy hpx hec hcD hnm hsp hN hV
                  have q0 := (hblk1).at 0 _ rfl
                  have q1 := (hblk1).at 1 _ rfl
                  have p0 := (hblk1).free 0 _ rfl
                  have p1 := (hblk1).free 1 _ rfl
                  have m0 := hmb1.at 0 _ rfl
                  have m1 := hmb1.at 1 _ rfl
                  have mf0 := hmb1.free 0 _ rfl
                  have mf1 := hmb1.free 1 _ rfl
                  go_wp2_with fail
                  refine (HC.out _ hmr1).mono ?_
                  rintro x w2 ⟨rfl, n2, rfl⟩
                  go_wp2_with (go_at_call 66; refine (HM.out _).mono ?_; rintro e w3 ⟨rfl, rfl⟩)
                  refine bodyPost_ret (v := .tuple #[.agg #[.slice none 0 0, .string ⟨#[]⟩], .int .i64 ln, .int .i64 3]) (by simp [results, Tryd.results24, go_sem, *]) rfl ?_
                  exact ⟨_, rfl, Kd.R_nil _ _ _ _ _, (by repeat (first | exact Below.refl _ _ | apply below_alloc | apply pw_below_drewN | apply below_drew1 | (refine Below.setCell ?_ (by first | (simp; done) | (simp; omega) | omega) _) | exact hB1))⟩
                | true =>
                  have hno : ¬ (e ≤ i + d ∨ nameOk (s.extract i (i + d)) = false) := by rw [hnm]; exact fun h => h.elim (fun h => hec (by omega)) (fun h => by cases h)
                  rw [hnm] at HM
                  have HM := Lib.hid HM
                  by_cases h30 : acc.length = 30
                  · first | (exfalso; omega) | skip
                    all_goals
                      have hq := hpy (i + d) rfl hno h30
                      subst hq
                      have e30 : ((acc.length : Int) == 30) = true := by rw [beq_iff_eq]; omega
                      clear hpn hpy hpx hec hcD hnm hno hsp hN hV
                      have q0 := (hblk1).at 0 _ rfl
                      have q1 := (hblk1).at 1 _ rfl
                      have p0 := (hblk1).free 0 _ rfl
                      have p1 := (hblk1).free 1 _ rfl
                      have m0 := hmb1.at 0 _ rfl
                      have m1 := hmb1.at 1 _ rfl
                      have mf0 := hmb1.free 0 _ rfl
                      have mf1 := hmb1.free 1 _ rfl
                      go_wp2_with fail
                      refine (HC.out _ hmr1).mono ?_
                      rintro x w2 ⟨rfl, n2, rfl⟩
                      go_wp2_with (go_at_call 66; refine (HM.out _).mono ?_; rintro e w3 ⟨rfl, rfl⟩)
                      refine bodyPost_ret (v := .tuple #[.agg #[.slice none 0 0, .string ⟨#[]⟩], .int .i64 ln, .int .i64 5]) (by simp [results, Tryd.results24, go_sem, *]) rfl ?_
                      exact ⟨_, rfl, Kd.R_nil _ _ _ _ _, (by repeat (first | exact Below.refl _ _ | apply below_alloc | apply pw_below_drewN | apply below_drew1 | (refine Below.setCell ?_ (by first | (simp; done) | (simp; omega) | omega) _) | exact hB1))⟩
                  · have hq := hpx (i + d) rfl hno h30
                    have e30 : ((acc.length : Int) == 30) = false := by rw [beq_eq_false_iff_ne]; omega
                    have hq := Lib.hid hq
                    have hl1 : (acc ++ [(⟨s.extract i (i + d), s.extract (i + d + 1) e⟩ : AField)]).length = acc.length + 1 := by rw [List.length_append]; rfl
                    clear hpn hpy hpx hec hcD hnm hno hsp hN hV
                    generalize s.extract i e = L at *
                    generalize s.extract i (i + d) = nm at *
                    generalize s.extract (i + d + 1) e = vl at *
                    have a0 := hmb1.at 0 _ rfl
                    go_wp2_with fail
                    refine (HC.out _ hmr1).mono ?_
                    rintro x w2 ⟨rfl, n2, hw2⟩
                    have hb2 : Below w1.heap.size w1 w2 := by rw [hw2]; exact (by repeat (first | exact Below.refl _ _ | apply below_alloc | apply pw_below_drewN | apply below_drew1 | (refine Below.setCell ?_ (by first | (simp; done) | (simp; omega) | omega) _) ))
                    have hB2 : Below w.heap.size w w2 := hB1.trans (hb2.mono (by omega))
                    have hblk2 := hblk1.below hb2 hz1
                    have hmb2 := hmb1.below hb2 hzm1
                    have hRow2 := Kd.R_below hRow1 hb2
                    have hzm2 := hmb2.lt
                    have m0 := hmb2.at 0 _ rfl
                    have mf0 := hmb2.free 0 _ rfl
                    clear hw2 a0 hblk1 hmb1 hRow1 hmr1 hB1 hb2 n2
                    have hl1 := Lib.hid hl1
                    go_wp2_with (first | (go_at_call 66; refine (HM.out _).mono ?_; rintro e w3 ⟨rfl, rfl⟩) | (at_builtin; refine snoc_list rowAField (w.heap.size + 2) rfl _ _ rfl (.slice A0 acc.length cap0) acc ⟨nm, vl⟩ [.string nm, .string vl] rfl (by simp [Act.eval]) rfl hRow2 (by omega) (by omega) ?_; intro v1 w5 hR1 hb5 hg5; obtain ⟨A5, c5, rfl⟩ := Kd.R_slice hR1; rw [hl1.out] at hR1 ⊢; have hmb5 := hmb2.below hb5 (by omega); have m5 := hmb5.at 0 _ rfl; have mf5 := hmb5.free 0 _ rfl))
                    go_roundw
                    case rel => exact ⟨e + 2, ln + 1, _, _, hes, by omega, by go_num, by go_num, R_elder hR1 (by simp) _, by rw [hl1.out]; omega, (fun x hx => by
                      rcases List.mem_append.1 hx with h | h
                      · have := hval x h; omega
                      · rw [List.mem_singleton.1 h]; exact hvz), (hblk2.below hb5 (by omega)).other (by omega) _, hmb5.set 0 _ (by simp), hq.out.symm, Below.setCell (hB2.trans (hb5.mono (by omega))) (by simp) _⟩
                    case measure => simp [strSz]; omega
            · clear hnx hc0
              have hpm := parse_more (ln := ln) hE (by omega) hes hb hne
              rw [hR] at hpm
              have hpm := Lib.hid hpm
              have hal : 0 < acc.length := List.length_pos_iff.2 hne
              obtain ⟨g, cap, hv, hg1, hg2⟩ := fields_at hRow1 hal
              injection hv with hv1 hv2 hv3
              clear hv2
              subst hv1
              subst hv3
              obtain ⟨n, hn⟩ : ∃ n, acc.length = n + 1 := ⟨acc.length - 1, by omega⟩
              rw [hn] at hRow1 hmb1
              obtain ⟨y0, y1, z0, z1⟩ := fields_cells hRow1 n (by omega)
              have hst := fun x => fields_set hRow1 n (by omega) x
              have hvs := hval acc[n] (List.getElem_mem _)
              have hadd : addLast acc (s.extract i e) = acc.set n ⟨acc[n].name, acc[n].value ++ s.extract i e⟩ := by
                unfold addLast
                rw [show acc.length - 1 = n by omega, List.getD_eq_getElem?_getD, List.getElem?_eq_getElem (by omega : n < acc.length)]; rfl
              have hsum : (acc[n].value.size : Int) + (s.extract i e).size ≤ 9223372036854775807 := by omega
              have hgt : (0 : Int) < ((n + 1 : Nat) : Int) := by omega
              have hgt2 : (0 : Int) < (n : Int) + 1 := by omega
              have j1 : (0 : Int) ≤ (n : Int) := by omega
              have j2 : (n : Int) < (n : Int) + 1 := by omega
              have hst := Lib.hid hst
              have hadd := Lib.hid hadd
              have hnl : n < acc.length := by omega
              have hmem : ∀ y : AField, y.value.size ≤ e + 2 → ∀ x ∈ acc.set n y, x.value.size ≤ e + 2 := fun y hy x hx => by
                rcases List.mem_or_eq_of_mem_set hx with h | h
                · have := hval x h; omega
                · rw [h]; exact hy
              have hmem := Lib.hid hmem
              have g1 : ¬ g = w.heap.size + 1 := by omega
              have g2 : ¬ g = w.heap.size := by omega
              have m0 := hmb1.at 0 _ rfl
              clear hE hb hne hR hval hal
              generalize acc[n].value = av at *
              generalize acc[n].name = an at *
              go_wp2_with fail
              go_roundw
              case rel => exact ⟨e + 2, ln + 1, _, _, hes, by omega, by go_num, by go_num, (hst.out (av ++ s.extract i e)).1, by simp; omega, hmem.out _ (by simp; omega), hblk1.other g2 _, hmb1.other g1 _, by rw [← hadd.out]; exact hpm.out.symm, Below.setCell hB1 (show w.heap.size ≤ g by omega) _⟩
              case measure => simp [strSz]; omega
          · have c1 : (((s.extract i e)[0].toNat : Int) == 32) = false := by rw [beq_eq_false_iff_ne]; omega
            have c2 : (((s.extract i e)[0].toNat : Int) == 9) = true := by rw [beq_iff_eq]; omega
            clear hb2
            by_cases hne : acc = []
            · have hb : ¬ ((nx s i = 32 ∨ nx s i = 9) ∧ acc ≠ []) := fun h => h.2 hne
              have hal0 : acc.length = 0 := by rw [hne]; rfl
              have hal1 : ¬ (0 : Int) < (acc.length : Int) := by omega
              have hal2 := Lib.hid hal0
              clear hne hal0 hnx hc0
              have hcge := span_ge notColon s i hi
              have hpn := fun c hc hn => parse_name (ln := ln) (l := acc) (c := c) hE (by omega) hes hb hc hn
              have hpy := fun c hc hn hl => parse_many (ln := ln) (l := acc) (c := c) hE (by omega) hes hb hc hn hl
              have hpx := fun c hc hn hl => parse_next (ln := ln) (l := acc) (c := c) hE (by omega) hes hb hc hn hl
              have hsp := colon_line s i e hie (by omega)
              rw [hR] at hpn hpy hpx
              generalize hcD : spanEnd notColon s i = c at *
              clear hR hE hb
              by_cases hec : e ≤ c
              · rw [if_pos hec] at hsp
                have HC := Lib.hid (fun w hm => cutNone_calls (s.extract i e) m w (by omega) hm (by omega))
                have hq := hpn c rfl (.inl hec)
                subst hq
                clear hpn hpy hpx hec hcD hsp
                have q0 := (hblk1).at 0 _ rfl
                have q1 := (hblk1).at 1 _ rfl
                have p0 := (hblk1).free 0 _ rfl
                have p1 := (hblk1).free 1 _ rfl
                have m0 := hmb1.at 0 _ rfl
                have m1 := hmb1.at 1 _ rfl
                have mf0 := hmb1.free 0 _ rfl
                have mf1 := hmb1.free 1 _ rfl
                go_wp2_with fail
                refine (HC.out _ hmr1).mono ?_
                rintro x w2 ⟨rfl, n2, rfl⟩
                go_wp2_with fail
                refine bodyPost_ret (v := .tuple #[.agg #[.slice none 0 0, .string ⟨#[]⟩], .int .i64 ln, .int .i64 3]) (by simp [results, Tryd.results24, go_sem, *]) rfl ?_
                exact ⟨_, rfl, Kd.R_nil _ _ _ _ _, (by repeat (first | exact Below.refl _ _ | apply below_alloc | apply pw_below_drewN | apply below_drew1 | (refine Below.setCell ?_ (by first | (simp; done) | (simp; omega) | omega) _) | exact hB1))⟩
              · obtain ⟨d, rfl⟩ : ∃ d, c = i + d := ⟨c - i, by omega⟩
                rw [if_neg hec, show i + d - i = d by omega] at hsp
                have HC := fun w hm => cutColon_calls (s.extract i e) m w (by omega) hm (by omega)
                have hN : (s.extract i e).extract 0 d = s.extract i (i + d) := ext_ext s (by omega) (by omega)
                have hV : (s.extract i e).extract (d + 1) (s.extract i e).size = s.extract (i + d + 1) e := by rw [hsz, ext_ext s (by omega) (by omega)]; congr 1; omega
                rw [hsp, hN, hV] at HC
                have HC := Lib.hid HC
                have HM := fun w => name_calls (s.extract i (i + d)) w (by rw [ext_size (by omega)]; omega)
                have hvz : (s.extract (i + d + 1) e).size ≤ e + 2 := by rw [ext_size (by omega)]; omega
                cases hnm : nameOk (s.extract i (i + d)) with
                | false =>
                  have hq := hpn (i + d) rfl (.inr hnm)
                  subst hq
                  rw [hnm] at HM
                  have HM := Lib.hid HM
                  clear hpn hpy hpx hec hcD hnm hsp hN hV
                  have q0 := (hblk1).at 0 _ rfl
                  have q1 := (hblk1).at 1 _ rfl
                  have p0 := (hblk1).free 0 _ rfl
                  have p1 := (hblk1).free 1 _ rfl
                  have m0 := hmb1.at 0 _ rfl
                  have m1 := hmb1.at 1 _ rfl
                  have mf0 := hmb1.free 0 _ rfl
                  have mf1 := hmb1.free 1 _ rfl
                  go_wp2_with fail
                  refine (HC.out _ hmr1).mono ?_
                  rintro x w2 ⟨rfl, n2, rfl⟩
                  go_wp2_with (go_at_call 66; refine (HM.out _).mono ?_; rintro e w3 ⟨rfl, rfl⟩)
                  refine bodyPost_ret (v := .tuple #[.agg #[.slice none 0 0, .string ⟨#[]⟩], .int .i64 ln, .int .i64 3]) (by simp [results, Tryd.results24, go_sem, *]) rfl ?_
                  exact ⟨_, rfl, Kd.R_nil _ _ _ _ _, (by repeat (first | exact Below.refl _ _ | apply below_alloc | apply pw_below_drewN | apply below_drew1 | (refine Below.setCell ?_ (by first | (simp; done) | (simp; omega) | omega) _) | exact hB1))⟩
                | true =>
                  have hno : ¬ (e ≤ i + d ∨ nameOk (s.extract i (i + d)) = false) := by rw [hnm]; exact fun h => h.elim (fun h => hec (by omega)) (fun h => by cases h)
                  rw [hnm] at HM
                  have HM := Lib.hid HM
                  by_cases h30 : acc.length = 30
                  · first | (exfalso; omega) | skip
                    all_goals
                      have hq := hpy (i + d) rfl hno h30
                      subst hq
                      have e30 : ((acc.length : Int) == 30) = true := by rw [beq_iff_eq]; omega
                      clear hpn hpy hpx hec hcD hnm hno hsp hN hV
                      have q0 := (hblk1).at 0 _ rfl
                      have q1 := (hblk1).at 1 _ rfl
                      have p0 := (hblk1).free 0 _ rfl
                      have p1 := (hblk1).free 1 _ rfl
                      have m0 := hmb1.at 0 _ rfl
                      have m1 := hmb1.at 1 _ rfl
                      have mf0 := hmb1.free 0 _ rfl
                      have mf1 := hmb1.free 1 _ rfl
                      go_wp2_with fail
                      refine (HC.out _ hmr1).mono ?_
                      rintro x w2 ⟨rfl, n2, rfl⟩
                      go_wp2_with (go_at_call 66; refine (HM.out _).mono ?_; rintro e w3 ⟨rfl, rfl⟩)
                      refine bodyPost_ret (v := .tuple #[.agg #[.slice none 0 0, .string ⟨#[]⟩], .int .i64 ln, .int .i64 5]) (by simp [results, Tryd.results24, go_sem, *]) rfl ?_
                      exact ⟨_, rfl, Kd.R_nil _ _ _ _ _, (by repeat (first | exact Below.refl _ _ | apply below_alloc | apply pw_below_drewN | apply below_drew1 | (refine Below.setCell ?_ (by first | (simp; done) | (simp; omega) | omega) _) | exact hB1))⟩
                  · have hq := hpx (i + d) rfl hno h30
                    have e30 : ((acc.length : Int) == 30) = false := by rw [beq_eq_false_iff_ne]; omega
                    have hq := Lib.hid hq
                    have hl1 : (acc ++ [(⟨s.extract i (i + d), s.extract (i + d + 1) e⟩ : AField)]).length = acc.length + 1 := by rw [List.length_append]; rfl
                    clear hpn hpy hpx hec hcD hnm hno hsp hN hV
                    generalize s.extract i e = L at *
                    generalize s.extract i (i + d) = nm at *
                    generalize s.extract (i + d + 1) e = vl at *
                    have a0 := hmb1.at 0 _ rfl
                    go_wp2_with fail
                    refine (HC.out _ hmr1).mono ?_
                    rintro x w2 ⟨rfl, n2, hw2⟩
                    have hb2 : Below w1.heap.size w1 w2 := by rw [hw2]; exact (by repeat (first | exact Below.refl _ _ | apply below_alloc | apply pw_below_drewN | apply below_drew1 | (refine Below.setCell ?_ (by first | (simp; done) | (simp; omega) | omega) _) ))
                    have hB2 : Below w.heap.size w w2 := hB1.trans (hb2.mono (by omega))
                    have hblk2 := hblk1.below hb2 hz1
                    have hmb2 := hmb1.below hb2 hzm1
                    have hRow2 := Kd.R_below hRow1 hb2
                    have hzm2 := hmb2.lt
                    have m0 := hmb2.at 0 _ rfl
                    have mf0 := hmb2.free 0 _ rfl
                    clear hw2 a0 hblk1 hmb1 hRow1 hmr1 hB1 hb2 n2
                    have hl1 := Lib.hid hl1
                    go_wp2_with (first | (go_at_call 66; refine (HM.out _).mono ?_; rintro e w3 ⟨rfl, rfl⟩) | (at_builtin; refine snoc_list rowAField (w.heap.size + 2) rfl _ _ rfl (.slice A0 acc.length cap0) acc ⟨nm, vl⟩ [.string nm, .string vl] rfl (by simp [Act.eval]) rfl hRow2 (by omega) (by omega) ?_; intro v1 w5 hR1 hb5 hg5; obtain ⟨A5, c5, rfl⟩ := Kd.R_slice hR1; rw [hl1.out] at hR1 ⊢; have hmb5 := hmb2.below hb5 (by omega); have m5 := hmb5.at 0 _ rfl; have mf5 := hmb5.free 0 _ rfl))
                    go_roundw
                    case rel => exact ⟨e + 2, ln + 1, _, _, hes, by omega, by go_num, by go_num, R_elder hR1 (by simp) _, by rw [hl1.out]; omega, (fun x hx => by
                      rcases List.mem_append.1 hx with h | h
                      · have := hval x h; omega
                      · rw [List.mem_singleton.1 h]; exact hvz), (hblk2.below hb5 (by omega)).other (by omega) _, hmb5.set 0 _ (by simp), hq.out.symm, Below.setCell (hB2.trans (hb5.mono (by omega))) (by simp) _⟩
                    case measure => simp [strSz]; omega
            · clear hnx hc0
              have hpm := parse_more (ln := ln) hE (by omega) hes hb hne
              rw [hR] at hpm
              have hpm := Lib.hid hpm
              have hal : 0 < acc.length := List.length_pos_iff.2 hne
              obtain ⟨g, cap, hv, hg1, hg2⟩ := fields_at hRow1 hal
              injection hv with hv1 hv2 hv3
              clear hv2
              subst hv1
              subst hv3
              obtain ⟨n, hn⟩ : ∃ n, acc.length = n + 1 := ⟨acc.length - 1, by omega⟩
              rw [hn] at hRow1 hmb1
              obtain ⟨y0, y1, z0, z1⟩ := fields_cells hRow1 n (by omega)
              have hst := fun x => fields_set hRow1 n (by omega) x
              have hvs := hval acc[n] (List.getElem_mem _)
              have hadd : addLast acc (s.extract i e) = acc.set n ⟨acc[n].name, acc[n].value ++ s.extract i e⟩ := by
                unfold addLast
                rw [show acc.length - 1 = n by omega, List.getD_eq_getElem?_getD, List.getElem?_eq_getElem (by omega : n < acc.length)]; rfl
              have hsum : (acc[n].value.size : Int) + (s.extract i e).size ≤ 9223372036854775807 := by omega
              have hgt : (0 : Int) < ((n + 1 : Nat) : Int) := by omega
              have hgt2 : (0 : Int) < (n : Int) + 1 := by omega
              have j1 : (0 : Int) ≤ (n : Int) := by omega
              have j2 : (n : Int) < (n : Int) + 1 := by omega
              have hst := Lib.hid hst
              have hadd := Lib.hid hadd
              have hnl : n < acc.length := by omega
              have hmem : ∀ y : AField, y.value.size ≤ e + 2 → ∀ x ∈ acc.set n y, x.value.size ≤ e + 2 := fun y hy x hx => by
                rcases List.mem_or_eq_of_mem_set hx with h | h
                · have := hval x h; omega
                · rw [h]; exact hy
              have hmem := Lib.hid hmem
              have g1 : ¬ g = w.heap.size + 1 := by omega
              have g2 : ¬ g = w.heap.size := by omega
              have m0 := hmb1.at 0 _ rfl
              clear hE hb hne hR hval hal
              generalize acc[n].value = av at *
              generalize acc[n].name = an at *
              go_wp2_with fail
              go_roundw
              case rel => exact ⟨e + 2, ln + 1, _, _, hes, by omega, by go_num, by go_num, (hst.out (av ++ s.extract i e)).1, by simp; omega, hmem.out _ (by simp; omega), hblk1.other g2 _, hmb1.other g1 _, by rw [← hadd.out]; exact hpm.out.symm, Below.setCell hB1 (show w.heap.size ≤ g by omega) _⟩
              case measure => simp [strSz]; omega
        · have c1 : (((s.extract i e)[0].toNat : Int) == 32) = false := by rw [beq_eq_false_iff_ne]; omega
          have c2 : (((s.extract i e)[0].toNat : Int) == 9) = false := by rw [beq_eq_false_iff_ne]; omega
          replace hb : ¬ ((nx s i = 32 ∨ nx s i = 9) ∧ acc ≠ []) := fun h => hb h.1
          clear hnx hc0
          have hcge := span_ge notColon s i hi
          have hpn := fun c hc hn => parse_name (ln := ln) (l := acc) (c := c) hE (by omega) hes hb hc hn
          have hpy := fun c hc hn hl => parse_many (ln := ln) (l := acc) (c := c) hE (by omega) hes hb hc hn hl
          have hpx := fun c hc hn hl => parse_next (ln := ln) (l := acc) (c := c) hE (by omega) hes hb hc hn hl
          have hsp := colon_line s i e hie (by omega)
          rw [hR] at hpn hpy hpx
          generalize hcD : spanEnd notColon s i = c at *
          clear hR hE hb
          by_cases hec : e ≤ c
          · rw [if_pos hec] at hsp
            have HC := Lib.hid (fun w hm => cutNone_calls (s.extract i e) m w (by omega) hm (by omega))
            have hq := hpn c rfl (.inl hec)
            subst hq
            clear hpn hpy hpx hec hcD hsp
            have q0 := (hblk1).at 0 _ rfl
            have q1 := (hblk1).at 1 _ rfl
            have p0 := (hblk1).free 0 _ rfl
            have p1 := (hblk1).free 1 _ rfl
            have m0 := hmb1.at 0 _ rfl
            have m1 := hmb1.at 1 _ rfl
            have mf0 := hmb1.free 0 _ rfl
            have mf1 := hmb1.free 1 _ rfl
            go_wp2_with fail
            refine (HC.out _ hmr1).mono ?_
            rintro x w2 ⟨rfl, n2, rfl⟩
            go_wp2_with fail
            refine bodyPost_ret (v := .tuple #[.agg #[.slice none 0 0, .string ⟨#[]⟩], .int .i64 ln, .int .i64 3]) (by simp [results, Tryd.results24, go_sem, *]) rfl ?_
            exact ⟨_, rfl, Kd.R_nil _ _ _ _ _, (by repeat (first | exact Below.refl _ _ | apply below_alloc | apply pw_below_drewN | apply below_drew1 | (refine Below.setCell ?_ (by first | (simp; done) | (simp; omega) | omega) _) | exact hB1))⟩
          · obtain ⟨d, rfl⟩ : ∃ d, c = i + d := ⟨c - i, by omega⟩
            rw [if_neg hec, show i + d - i = d by omega] at hsp
            have HC := fun w hm => cutColon_calls (s.extract i e) m w (by omega) hm (by omega)
            have hN : (s.extract i e).extract 0 d = s.extract i (i + d) := ext_ext s (by omega) (by omega)
            have hV : (s.extract i e).extract (d + 1) (s.extract i e).size = s.extract (i + d + 1) e := by rw [hsz, ext_ext s (by omega) (by omega)]; congr 1; omega
            rw [hsp, hN, hV] at HC
            have HC := Lib.hid HC
            have HM := fun w => name_calls (s.extract i (i + d)) w (by rw [ext_size (by omega)]; omega)
            have hvz : (s.extract (i + d + 1) e).size ≤ e + 2 := by rw [ext_size (by omega)]; omega
            cases hnm : nameOk (s.extract i (i + d)) with
            | false =>
              have hq := hpn (i + d) rfl (.inr hnm)
              subst hq
              rw [hnm] at HM
              have HM := Lib.hid HM
              clear hpn hpy hpx hec hcD hnm hsp hN hV
              have q0 := (hblk1).at 0 _ rfl
              have q1 := (hblk1).at 1 _ rfl
              have p0 := (hblk1).free 0 _ rfl
              have p1 := (hblk1).free 1 _ rfl
              have m0 := hmb1.at 0 _ rfl
              have m1 := hmb1.at 1 _ rfl
              have mf0 := hmb1.free 0 _ rfl
              have mf1 := hmb1.free 1 _ rfl
              go_wp2_with fail
              refine (HC.out _ hmr1).mono ?_
              rintro x w2 ⟨rfl, n2, rfl⟩
              go_wp2_with (go_at_call 66; refine (HM.out _).mono ?_; rintro e w3 ⟨rfl, rfl⟩)
              refine bodyPost_ret (v := .tuple #[.agg #[.slice none 0 0, .string ⟨#[]⟩], .int .i64 ln, .int .i64 3]) (by simp [results, Tryd.results24, go_sem, *]) rfl ?_
              exact ⟨_, rfl, Kd.R_nil _ _ _ _ _, (by repeat (first | exact Below.refl _ _ | apply below_alloc | apply pw_below_drewN | apply below_drew1 | (refine Below.setCell ?_ (by first | (simp; done) | (simp; omega) | omega) _) | exact hB1))⟩
            | true =>
              have hno : ¬ (e ≤ i + d ∨ nameOk (s.extract i (i + d)) = false) := by rw [hnm]; exact fun h => h.elim (fun h => hec (by omega)) (fun h => by cases h)
              rw [hnm] at HM
              have HM := Lib.hid HM
              by_cases h30 : acc.length = 30
              · first | (exfalso; omega) | skip
                all_goals
                  have hq := hpy (i + d) rfl hno h30
                  subst hq
                  have e30 : ((acc.length : Int) == 30) = true := by rw [beq_iff_eq]; omega
                  clear hpn hpy hpx hec hcD hnm hno hsp hN hV
                  have q0 := (hblk1).at 0 _ rfl
                  have q1 := (hblk1).at 1 _ rfl
                  have p0 := (hblk1).free 0 _ rfl
                  have p1 := (hblk1).free 1 _ rfl
                  have m0 := hmb1.at 0 _ rfl
                  have m1 := hmb1.at 1 _ rfl
                  have mf0 := hmb1.free 0 _ rfl
                  have mf1 := hmb1.free 1 _ rfl
                  go_wp2_with fail
                  refine (HC.out _ hmr1).mono ?_
                  rintro x w2 ⟨rfl, n2, rfl⟩
                  go_wp2_with (go_at_call 66; refine (HM.out _).mono ?_; rintro e w3 ⟨rfl, rfl⟩)
                  refine bodyPost_ret (v := .tuple #[.agg #[.slice none 0 0, .string ⟨#[]⟩], .int .i64 ln, .int .i64 5]) (by simp [results, Tryd.results24, go_sem, *]) rfl ?_
                  exact ⟨_, rfl, Kd.R_nil _ _ _ _ _, (by repeat (first | exact Below.refl _ _ | apply below_alloc | apply pw_below_drewN | apply below_drew1 | (refine Below.setCell ?_ (by first | (simp; done) | (simp; omega) | omega) _) | exact hB1))⟩
              · have hq := hpx (i + d) rfl hno h30
                have e30 : ((acc.length : Int) == 30) = false := by rw [beq_eq_false_iff_ne]; omega
                have hq := Lib.hid hq
                have hl1 : (acc ++ [(⟨s.extract i (i + d), s.extract (i + d + 1) e⟩ : AField)]).length = acc.length + 1 := by rw [List.length_append]; rfl
                clear hpn hpy hpx hec hcD hnm hno hsp hN hV
                generalize s.extract i e = L at *
                generalize s.extract i (i + d) = nm at *
                generalize s.extract (i + d + 1) e = vl at *
                have a0 := hmb1.at 0 _ rfl
                go_wp2_with fail
                refine (HC.out _ hmr1).mono ?_
                rintro x w2 ⟨rfl, n2, hw2⟩
                have hb2 : Below w1.heap.size w1 w2 := by rw [hw2]; exact (by repeat (first | exact Below.refl _ _ | apply below_alloc | apply pw_below_drewN | apply below_drew1 | (refine Below.setCell ?_ (by first | (simp; done) | (simp; omega) | omega) _) ))
                have hB2 : Below w.heap.size w w2 := hB1.trans (hb2.mono (by omega))
                have hblk2 := hblk1.below hb2 hz1
                have hmb2 := hmb1.below hb2 hzm1
                have hRow2 := Kd.R_below hRow1 hb2
                have hzm2 := hmb2.lt
                have m0 := hmb2.at 0 _ rfl
                have mf0 := hmb2.free 0 _ rfl
                clear hw2 a0 hblk1 hmb1 hRow1 hmr1 hB1 hb2 n2
                have hl1 := Lib.hid hl1
                go_wp2_with (first | (go_at_call 66; refine (HM.out _).mono ?_; rintro e w3 ⟨rfl, rfl⟩) | (at_builtin; refine snoc_list rowAField (w.heap.size + 2) rfl _ _ rfl (.slice A0 acc.length cap0) acc ⟨nm, vl⟩ [.string nm, .string vl] rfl (by simp [Act.eval]) rfl hRow2 (by omega) (by omega) ?_; intro v1 w5 hR1 hb5 hg5; obtain ⟨A5, c5, rfl⟩ := Kd.R_slice hR1; rw [hl1.out] at hR1 ⊢; have hmb5 := hmb2.below hb5 (by omega); have m5 := hmb5.at 0 _ rfl; have mf5 := hmb5.free 0 _ rfl))
                go_roundw
                case rel => exact ⟨e + 2, ln + 1, _, _, hes, by omega, by go_num, by go_num, R_elder hR1 (by simp) _, by rw [hl1.out]; omega, (fun x hx => by
                  rcases List.mem_append.1 hx with h | h
                  · have := hval x h; omega
                  · rw [List.mem_singleton.1 h]; exact hvz), (hblk2.below hb5 (by omega)).other (by omega) _, hmb5.set 0 _ (by simp), hq.out.symm, Below.setCell (hB2.trans (hb5.mono (by omega))) (by simp) _⟩
                case measure => simp [strSz]; omega
end Go.Proofs.YtpeenmbonhijmaaDoor.H
