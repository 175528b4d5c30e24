/- Letters parsed: the reference's MessageOf: the walk. -/
import Derived.Test.YtpeenmbonhijmaaDoorLpB
import Derived.Deep.QuietTactic
import Derived.BigQuiet
namespace Go.Proofs.YtpeenmbonhijmaaDoor.H
open Go.RowKit Go.Proofs.YtpeenmbonhijmaaDoorW.PrintWords Go.Proofs.YtpeenmbonhijmaaDoorW.PrintLast Go.Proofs.YtpeenmbonhijmaaDoorW.PrintMore Go.Proofs.YtpeenmbonhijmaaDoor.U
set_option linter.unusedVariables false
set_option linter.unusedSimpArgs false
/-- What a parse hands back. -/
def PostParse (w : World) (R : Int × Nat × List AField × ByteArray) (e : Ending) (w' : World) : Prop :=
  ∃ v : Value, e = .returned (.tuple #[.agg #[v, .string R.2.2.2], .int .i64 (R.2.1 : Int), .int .i64 R.1]) ∧ Kd.R kAField 100 w' w.heap.size (fun _ => True) v R.2.2.1 ∧ Below w.heap.size w w'
theorem bl_nx {s : ByteArray} {i : Nat} (h : i < s.size) : bl s[i] = decide (nx s i = 32 ∨ nx s i = 9) := by
  rw [nx_in h, bl, Bool.eq_iff_iff]
  simp only [Bool.or_eq_true, beq_iff_eq, decide_eq_true_eq]
  have e : ∀ c : UInt8, s[i] = c ↔ (s[i].toNat : Int) = c.toNat := fun c => ⟨fun h => by rw [h], fun h => UInt8.toNat_inj.1 (by omega)⟩
  rw [e, e]; exact Iff.rfl
theorem line_some {x : ByteArray} (h : 0 < x.size) : x.toList.isEmpty = false := by
  have h2 := lit_no (s := x) (l := []) (fun h2 => by rw [h2] at h; exact absurd h (by decide))
  cases h3 : x.toList with
  | nil => rw [h3] at h2; cases h2
  | cons => rfl
theorem line_none {x : ByteArray} (h : x.size = 0) : x.toList.isEmpty = true := by
  have h2 : x = ⟨#[]⟩ := by
    apply bytes_iff.1
    exact List.length_eq_zero_iff.1 (by simpa using h)
  have h3 := lit_yes (s := x) (l := []) h2
  cases h4 : x.toList with
  | nil => rfl
  | cons => rw [h4] at h3; cases h3
theorem ext_ext (s : ByteArray) {i e a b : Nat} (h : e ≤ s.size) (hb : i + b ≤ e) : (s.extract i e).extract a b = s.extract (i + a) (i + b) := by
  rw [ByteArray.extract_extract]; congr 1; omega
set_option maxHeartbeats 8000000 in
set_option maxRecDepth 100000 in
theorem message_calls (s : ByteArray) (w : World) (hs : s.size ≤ 1048576) :
    Calls Tryd.prog 24 #[.string s] w (PostParse w (parseV s)) := by
  unfold parseV
  by_cases hbig : 2000 < s.size
  · rw [if_pos hbig]
    have hbig' : (2000 : Int) < (s.size : Int) := by omega
    have k0 := Blk.made w #[.slice none 0 0, .string ⟨#[]⟩] 41
    have q0 := (k0).at 0 _ rfl
    have q1 := (k0).at 1 _ rfl
    have p0 := (k0).free 0 _ rfl
    have p1 := (k0).free 1 _ rfl
    clear k0
    go_enter Tryd.func24, Tryd.ntmps24
    go_wp2_with fail
    refine bodyPost_ret (v := .tuple #[.agg #[.slice none 0 0, .string ⟨#[]⟩], .int .i64 0, .int .i64 1]) (by simp [results, Tryd.results24, go_sem, *]) rfl ?_
    exact ⟨_, rfl, Kd.R_nil _ _ _ _ _, (by repeat (first | exact Below.refl _ _ | apply below_alloc | apply pw_below_drewN | apply below_drew1 | (refine Below.setCell ?_ (by first | (simp; done) | (simp; omega) | omega) _) ))⟩
  rw [if_neg hbig]
  have hbig' : ¬ (2000 : Int) < (s.size : Int) := by omega
  generalize hR : parseGo s 0 0 [] = R
  go_enter Tryd.func24, Tryd.ntmps24
  go_wp2_with fail
  go_loopw [5, 6, 7] (fun v vi vl wr => ∃ (i ln : Nat) (acc : List AField), i ≤ s.size ∧ ln ≤ i ∧ vi = .int .i64 i ∧ vl = .int .i64 ln ∧ Kd.R kAField 100 wr (w.heap.size + 1) (fun _ => True) v acc ∧ acc.length ≤ 30 ∧ (∀ x ∈ acc, x.value.size ≤ i) ∧ Blk wr w.heap.size [.slice none 0 0, .string ⟨#[]⟩] ∧ parseGo s i ln acc = R ∧ Below w.heap.size w wr) (fun _ vi _ _ => s.size - (intOf vi).toNat)
  case atStart => exact ⟨0, 0, [], Nat.zero_le _, Nat.le_refl _, rfl, rfl, Kd.R_nil _ _ _ _ _, by decide, (fun x hx => by cases hx), Blk.made w #[.slice none 0 0, .string ⟨#[]⟩] _, hR, (by repeat (first | exact Below.refl _ _ | apply below_alloc | apply pw_below_drewN | apply below_drew1 | (refine Below.setCell ?_ (by first | (simp; done) | (simp; omega) | omega) _) ))⟩
  case round =>
    clear hR
    obtain ⟨i, ln, acc, hi, hln, rfl, rfl, hRow, hacc, hval, hblk, hR, hB⟩ := hrel
    have hzw := hblk.lt
    obtain ⟨A0, cap0, rfl⟩ := Kd.R_slice hRow
    have HL := fun w => lineEnd_calls s i w (by omega) (by omega)
    have i0 : (0 : Int) ≤ (i : Int) := by omega
    rcases lineV_in s i with hE | ⟨e, hE, hie, hes⟩
    · rw [parse_open hE] at hR
      rw [hE] at HL
      subst hR
      have HL := Lib.hid HL
      clear hE
      have q0 := (hblk).at 0 _ rfl
      have q1 := (hblk).at 1 _ rfl
      have p0 := (hblk).free 0 _ rfl
      have p1 := (hblk).free 1 _ rfl
      go_wp2_with fail
      refine (HL.out _).mono ?_
      rintro e w1 ⟨rfl, rfl⟩
      go_wp2_with fail
      refine bodyPost_ret (v := .tuple #[.agg #[.slice none 0 0, .string ⟨#[]⟩], .int .i64 ln, .int .i64 4]) (by simp [results, Tryd.results24, go_sem, *]) rfl ?_
      exact ⟨_, rfl, Kd.R_nil _ _ _ _ _, (by repeat (first | exact Below.refl _ _ | apply below_alloc | apply pw_below_drewN | apply below_drew1 | (refine Below.setCell ?_ (by first | (simp; done) | (simp; omega) | omega) _) | exact hB))⟩
    · rw [hE] at HL
      have HL := Lib.hid HL
      have i1 : (i : Int) ≤ (e : Int) := by omega
      have i2 : (e : Int) ≤ (s.size : Int) := by omega
      have i3 : ¬ (e : Int) < 0 := by omega
      have hsz := ext_size (s := s) (k := i) (e := e) (by omega)
      by_cases hemp : e = i
      · subst hemp
        have hq := parse_end (ln := ln) (l := acc) hE
        rw [hR] at hq
        subst hq
        have hLe := line_none (x := s.extract e e) (by omega)
        have i4 : (0 : Int) ≤ (e : Int) + 2 := by omega
        have i5 : (e : Int) + 2 ≤ (s.size : Int) := by omega
        have i6 : ((e : Int) + 2).toNat = e + 2 := by omega
        clear hE hR
        go_wp2_with fail
        refine (HL.out _).mono ?_
        rintro e w1 ⟨rfl, rfl⟩
        go_wp2_with fail
        obtain ⟨W0, rfl⟩ : ∃ W0 : World, W0 = wr := ⟨_, rfl⟩
        have hml : (acc.map trimF).length = acc.length := List.length_map ..
        go_loopw [12] (fun v wr => ∃ (k : Nat) (v2 : Value), k ≤ acc.length ∧ v = .int .i64 k ∧ Blk wr W0.heap.size [v2, .string (s.extract (e + 2) s.size)] ∧ Kd.R kAField 100 wr (W0.heap.size + 1) (fun _ => True) v2 ((acc.map trimF).take k) ∧ Below W0.heap.size W0 wr) (fun v _ => acc.length - (intOf v).toNat)
        case atStart => exact ⟨0, .slice none 0 0, Nat.zero_le _, rfl, Blk.made W0 #[.slice none 0 0, .string (s.extract (e + 2) s.size)] _, Kd.R_nil _ _ _ _ _, (by repeat (first | exact Below.refl _ _ | apply below_alloc | apply pw_below_drewN | apply below_drew1 | (refine Below.setCell ?_ (by first | (simp; done) | (simp; omega) | omega) _) ))⟩
        case round =>
          obtain ⟨k, v2, hk, rfl, hb2, hR2, hB2⟩ := hrel
          have hz2 := hb2.lt
          by_cases hlt : k < acc.length
          · obtain ⟨A2, c2, rfl⟩ := Kd.R_slice hR2
            have hkl : ((acc.map trimF).take k).length = k := by rw [List.length_take, hml]; omega
            rw [hkl] at hR2 hb2
            have hRow' := Kd.R_below hRow hB2
            obtain ⟨g, cap, hv, hg1, hg2⟩ := fields_at hRow (by omega)
            injection hv with hv1 _ hv3
            subst hv1
            subst hv3
            obtain ⟨y0, y1, z0, z1⟩ := fields_cells hRow' k hlt
            have hvs := hval acc[k] (List.getElem_mem _)
            have HT := Lib.hid (fun w => trimmed_calls acc[k].value w (by omega))
            have hnext : (acc.map trimF).take (k + 1) = (acc.map trimF).take k ++ [⟨acc[k].name, trimT acc[k].value⟩] := by
              rw [List.take_add_one, List.getElem?_map, List.getElem?_eq_getElem hlt]; rfl
            have hnext := Lib.hid hnext
            have j0 : (0 : Int) ≤ (k : Int) := by omega
            have j1 : (k : Int) < (acc.length : Int) := by omega
            have r0 := hb2.at 0 _ rfl
            have r1 := hb2.at 1 _ rfl
            have s0 := hb2.free 0 _ rfl
            generalize acc[k].value = vl at *
            generalize acc[k].name = nm at *
            have m1 : ¬ g = W0.heap.size := by omega
            have hkl1 : ((acc.map trimF).take k ++ [(⟨nm, trimT vl⟩ : AField)]).length = k + 1 := by rw [List.length_append, hkl]; rfl
            have hkl1 := Lib.hid hkl1
            have r0d := cell_drew' r0
            have y0d := cell_drew' y0
            have y1d := cell_drew' y1
            have hR2d := Kd.R_drew hR2
            have hb2d := hb2.drew
            have hzd : W0.heap.size + 1 ≤ wr.drew.heap.size := by simp; omega
            have hgd : g < W0.heap.size + 1 := by omega
            have hgl := lt_of_cell' y0
            go_wp2_with fail
            refine wp_region_held_drew (S := fun w' => w'.cell? ⟨g, k * 2, none⟩ = some (.string nm) ∧ w'.cell? ⟨g, k * 2 + 1, none⟩ = some (.string vl)) (by kernel_rfl) ?_ (fun hHeld => ?_)
            · exact ⟨y0d, y1d⟩
            refine wpAnyH_take (i := 0) (oi := { dst := some 96, op := _, type := _, pos := _, after := _, guard := _ }) (v := .pointer (some ⟨W0.heap.size, 0, none⟩)) rfl (by kernel_rfl) (by kernel_rfl) (by kernel_rfl) (fun _ _ _ h => h) (Or.inl ⟨by rfl, by (intro w hSw; (try dsimp only at hSw); first | (go_simp; done) | (go_simp; with_reducible rfl) | (go_simp; omega) | (go_simp; simp [*]; done))⟩) (by assumption) ?_; try simp only [Act.put, List.setIfInBounds_toArray, List.set_cons_zero, List.set_cons_succ]
            refine wpAnyH_take (i := 2) (oi := { dst := some 98, op := _, type := _, pos := _, after := _, guard := _ }) (v := .slice (some ⟨g, 0, none⟩) acc.length cap0) rfl (by kernel_rfl) (by kernel_rfl) (by kernel_rfl) (fun _ _ _ h => h) (Or.inl ⟨by rfl, by (intro w hSw; (try dsimp only at hSw); first | (go_simp; done) | (go_simp; with_reducible rfl) | (go_simp; omega) | (go_simp; simp [*]; done))⟩) (by assumption) ?_; try simp only [Act.put, List.setIfInBounds_toArray, List.set_cons_zero, List.set_cons_succ]
            refine wpAnyH_take (i := 3) (oi := { dst := some 99, op := _, type := _, pos := _, after := _, guard := _ }) (v := .int .i64 k) rfl (by kernel_rfl) (by kernel_rfl) (by kernel_rfl) (fun _ _ _ h => h) (Or.inl ⟨by rfl, by (intro w hSw; (try dsimp only at hSw); first | (go_simp; done) | (go_simp; with_reducible rfl) | (go_simp; omega) | (go_simp; simp [*]; done))⟩) (by assumption) ?_; try simp only [Act.put, List.setIfInBounds_toArray, List.set_cons_zero, List.set_cons_succ]
            refine wpAnyH_take (i := 4) (oi := { dst := some 100, op := _, type := _, pos := _, after := _, guard := _ }) (v := .pointer (some ⟨g, k * 2, none⟩)) rfl (by kernel_rfl) (by kernel_rfl) (by kernel_rfl) (fun _ _ _ h => h) (Or.inl ⟨by rfl, by (intro w hSw; (try dsimp only at hSw); first | (go_simp; done) | (go_simp; with_reducible rfl) | (go_simp; omega) | (go_simp; simp [*]; done))⟩) (by assumption) ?_; try simp only [Act.put, List.setIfInBounds_toArray, List.set_cons_zero, List.set_cons_succ]
            refine wpAnyH_take (i := 5) (oi := { dst := some 101, op := _, type := _, pos := _, after := _, guard := _ }) (v := .pointer (some ⟨g, k * 2, none⟩)) rfl (by kernel_rfl) (by kernel_rfl) (by kernel_rfl) (fun _ _ _ h => h) (Or.inl ⟨by rfl, by (intro w hSw; (try dsimp only at hSw); first | (go_simp; done) | (go_simp; with_reducible rfl) | (go_simp; omega) | (go_simp; simp [*]; done))⟩) (by assumption) ?_; try simp only [Act.put, List.setIfInBounds_toArray, List.set_cons_zero, List.set_cons_succ]
            refine wpAnyH_take (i := 6) (oi := { dst := some 102, op := _, type := _, pos := _, after := _, guard := _ }) (v := .string nm) rfl (by kernel_rfl) (by kernel_rfl) (by kernel_rfl) (fun _ _ _ h => h) (Or.inl ⟨by rfl, by (intro w hSw; (try dsimp only at hSw); first | (go_simp; done) | (go_simp; with_reducible rfl) | (go_simp; omega) | (go_simp; simp [*]; done))⟩) (by assumption) ?_; try simp only [Act.put, List.setIfInBounds_toArray, List.set_cons_zero, List.set_cons_succ]
            refine wpAnyH_take (i := 7) (oi := { dst := some 103, op := _, type := _, pos := _, after := _, guard := _ }) (v := .slice (some ⟨g, 0, none⟩) acc.length cap0) rfl (by kernel_rfl) (by kernel_rfl) (by kernel_rfl) (fun _ _ _ h => h) (Or.inl ⟨by rfl, by (intro w hSw; (try dsimp only at hSw); first | (go_simp; done) | (go_simp; with_reducible rfl) | (go_simp; omega) | (go_simp; simp [*]; done))⟩) (by assumption) ?_; try simp only [Act.put, List.setIfInBounds_toArray, List.set_cons_zero, List.set_cons_succ]
            refine wpAnyH_take (i := 8) (oi := { dst := some 104, op := _, type := _, pos := _, after := _, guard := _ }) (v := .int .i64 k) rfl (by kernel_rfl) (by kernel_rfl) (by kernel_rfl) (fun _ _ _ h => h) (Or.inl ⟨by rfl, by (intro w hSw; (try dsimp only at hSw); first | (go_simp; done) | (go_simp; with_reducible rfl) | (go_simp; omega) | (go_simp; simp [*]; done))⟩) (by assumption) ?_; try simp only [Act.put, List.setIfInBounds_toArray, List.set_cons_zero, List.set_cons_succ]
            refine wpAnyH_take (i := 9) (oi := { dst := some 105, op := _, type := _, pos := _, after := _, guard := _ }) (v := .pointer (some ⟨g, k * 2, none⟩)) rfl (by kernel_rfl) (by kernel_rfl) (by kernel_rfl) (fun _ _ _ h => h) (Or.inl ⟨by rfl, by (intro w hSw; (try dsimp only at hSw); first | (go_simp; done) | (go_simp; with_reducible rfl) | (go_simp; omega) | (go_simp; simp [*]; done))⟩) (by assumption) ?_; try simp only [Act.put, List.setIfInBounds_toArray, List.set_cons_zero, List.set_cons_succ]
            refine wpAnyH_take (i := 10) (oi := { dst := some 106, op := _, type := _, pos := _, after := _, guard := _ }) (v := .pointer (some ⟨g, k * 2 + 1, none⟩)) rfl (by kernel_rfl) (by kernel_rfl) (by kernel_rfl) (fun _ _ _ h => h) (Or.inl ⟨by rfl, by (intro w hSw; (try dsimp only at hSw); first | (go_simp; done) | (go_simp; with_reducible rfl) | (go_simp; omega) | (go_simp; simp [*]; done))⟩) (by assumption) ?_; try simp only [Act.put, List.setIfInBounds_toArray, List.set_cons_zero, List.set_cons_succ]
            refine wpAnyH_take (i := 11) (oi := { dst := some 107, op := _, type := _, pos := _, after := _, guard := _ }) (v := .string vl) rfl (by kernel_rfl) (by kernel_rfl) (by kernel_rfl) (fun _ _ _ h => h) (Or.inl ⟨by rfl, by (intro w hSw; (try dsimp only at hSw); first | (go_simp; done) | (go_simp; with_reducible rfl) | (go_simp; omega) | (go_simp; simp [*]; done))⟩) (by assumption) ?_; try simp only [Act.put, List.setIfInBounds_toArray, List.set_cons_zero, List.set_cons_succ]
            refine wpAnyH_ready (rs := [1, 12]) (by kernel_rfl) (by simp) ?_
            refine AllReadyH.cons (o := { dst := some 97, op := _, type := _, pos := _, after := _, guard := _ }) rfl (fun K hK => ?_) (AllReadyH.cons (o := { dst := some 108, op := _, type := _, pos := _, after := _, guard := _ }) rfl (fun K hK => ?_) AllReadyH.nil)
            · go_simp
              refine hK.out _ _ ⟨y0d, y1d⟩ (fun hHeld => ?_)
              clear hK K
              refine wpAnyH_ready (rs := [12]) (by kernel_rfl) (by simp) ?_
              refine AllReadyH.cons (o := { dst := some 108, op := _, type := _, pos := _, after := _, guard := _ }) rfl (fun K hK => ?_) AllReadyH.nil
              go_simp
              go_at_call 71
              refine (HT.out _).mono ?_
              rintro e w1 ⟨rfl, rfl⟩
              go_wp2_with fail
              refine hK.out _ _ ⟨y0d, y1d⟩ (fun hHeld => ?_)
              clear hK K
              refine wpAnyH_take (i := 13) (oi := { dst := some 109, op := _, type := _, pos := _, after := _, guard := _ }) (v := .agg #[.string nm, .string (trimT vl)]) rfl (by kernel_rfl) (by kernel_rfl) (by kernel_rfl) (fun _ _ _ h => h) (Or.inl ⟨by rfl, by (intro w hSw; (try dsimp only at hSw); first | (go_simp; done) | (go_simp; with_reducible rfl) | (go_simp; omega) | (go_simp; simp [*]; done))⟩) (by assumption) ?_; try simp only [Act.put, List.setIfInBounds_toArray, List.set_cons_zero, List.set_cons_succ]
              skip
              refine wpAnyH_ready (rs := [14]) (by kernel_rfl) (by simp) ?_
              refine AllReadyH.cons (o := { dst := some 110, op := _, type := _, pos := _, after := _, guard := _ }) rfl (fun K hK => ?_) AllReadyH.nil
              go_simp
              refine hK.out _ _ ⟨cell_alloc' y0d _, cell_alloc' y1d _⟩ (fun hHeld => ?_)
              clear hK K
              refine wpAnyH_ready (rs := [15]) (by kernel_rfl) (by simp) ?_
              refine AllReadyH.cons (o := { dst := some 111, op := _, type := _, pos := _, after := _, guard := _ }) rfl (fun K hK => ?_) AllReadyH.nil
              refine snoc_step rowAField (W0.heap.size + 1) (by rfl) (.tmp 97) (.tmp 110) (by rfl) (.slice A2 k c2) ((acc.map trimF).take k) ⟨nm, trimT vl⟩ [.string nm, .string (trimT vl)] (by rfl) (by rfl) rfl hR2d (by omega) (by rw [hkl]; omega) ?_
              intro v1 w5 hR5 hb5 hg5
              obtain ⟨A5, c5, rfl⟩ := Kd.R_slice hR5
              rw [hkl1.out] at hR5 ⊢
              have hblk5 := hb2d.beside hR2d hg5 (by omega)
              have y5 := cell_below hb5 y0d hgd
              have y6 := cell_below hb5 y1d hgd
              refine hK.out _ _ ⟨y5, y6⟩ (fun hHeld => ?_)
              clear hK K
              have r5 := hblk5.at 0 _ rfl
              have s5 := hblk5.free 0 _ rfl
              refine wpAnyH_take (i := 16) (oi := { dst := some 112, op := _, type := _, pos := _, after := _, guard := _ }) (v := .pointer (some ⟨W0.heap.size, 0, none⟩)) rfl (by kernel_rfl) (by kernel_rfl) (by kernel_rfl) (fun _ _ _ h => h) (Or.inl ⟨by rfl, by (intro w hSw; (try dsimp only at hSw); first | (go_simp; done) | (go_simp; with_reducible rfl) | (go_simp; omega) | (go_simp; simp [*]; done))⟩) (by assumption) ?_; try simp only [Act.put, List.setIfInBounds_toArray, List.set_cons_zero, List.set_cons_succ]
              refine wpAnyH_ready (rs := [17]) (by kernel_rfl) (by simp) ?_
              refine AllReadyH.cons (o := { dst := none, op := _, type := _, pos := _, after := _, guard := _ }) rfl (fun K hK => ?_) AllReadyH.nil
              go_simp
              refine hK.out _ _ ⟨cell_other' y5 m1 _, cell_other' y6 m1 _⟩ (fun hHeld => ?_)
              clear hK K
              refine wpAnyH_done (by kernel_rfl) ?_ _
              go_wp2_with fail
              go_roundw
              case rel => exact ⟨k + 1, .slice A5 (k + 1) c5, hlt, by go_num, hblk5.set 0 _ (by simp), R_elder (by rw [hnext.out]; exact hR5) (by simp) _, Below.setCell (Below.trans (show Below W0.heap.size W0 _ from (by repeat (first | exact Below.refl _ _ | apply below_alloc | apply pw_below_drewN | apply below_drew1 | (refine Below.setCell ?_ (by first | (simp; done) | (simp; omega) | omega) _) | exact hB2))) (hb5.mono (by omega))) (by simp) _⟩
              case measure => simp [intOf]; omega
            · go_simp
              go_at_call 71
              refine (HT.out _).mono ?_
              rintro e w1 ⟨rfl, rfl⟩
              go_wp2_with fail
              refine hK.out _ _ ⟨y0d, y1d⟩ (fun hHeld => ?_)
              clear hK K
              refine wpAnyH_take (i := 13) (oi := { dst := some 109, op := _, type := _, pos := _, after := _, guard := _ }) (v := .agg #[.string nm, .string (trimT vl)]) rfl (by kernel_rfl) (by kernel_rfl) (by kernel_rfl) (fun _ _ _ h => h) (Or.inl ⟨by rfl, by (intro w hSw; (try dsimp only at hSw); first | (go_simp; done) | (go_simp; with_reducible rfl) | (go_simp; omega) | (go_simp; simp [*]; done))⟩) (by assumption) ?_; try simp only [Act.put, List.setIfInBounds_toArray, List.set_cons_zero, List.set_cons_succ]
              refine wpAnyH_ready (rs := [1, 14]) (by kernel_rfl) (by simp) ?_
              refine AllReadyH.cons (o := { dst := some 97, op := _, type := _, pos := _, after := _, guard := _ }) rfl (fun K hK => ?_) (AllReadyH.cons (o := { dst := some 110, op := _, type := _, pos := _, after := _, guard := _ }) rfl (fun K hK => ?_) AllReadyH.nil)
              · go_simp
                refine hK.out _ _ ⟨y0d, y1d⟩ (fun hHeld => ?_)
                clear hK K
                skip
                refine wpAnyH_ready (rs := [14]) (by kernel_rfl) (by simp) ?_
                refine AllReadyH.cons (o := { dst := some 110, op := _, type := _, pos := _, after := _, guard := _ }) rfl (fun K hK => ?_) AllReadyH.nil
                go_simp
                refine hK.out _ _ ⟨cell_alloc' y0d _, cell_alloc' y1d _⟩ (fun hHeld => ?_)
                clear hK K
                refine wpAnyH_ready (rs := [15]) (by kernel_rfl) (by simp) ?_
                refine AllReadyH.cons (o := { dst := some 111, op := _, type := _, pos := _, after := _, guard := _ }) rfl (fun K hK => ?_) AllReadyH.nil
                refine snoc_step rowAField (W0.heap.size + 1) (by rfl) (.tmp 97) (.tmp 110) (by rfl) (.slice A2 k c2) ((acc.map trimF).take k) ⟨nm, trimT vl⟩ [.string nm, .string (trimT vl)] (by rfl) (by rfl) rfl hR2d (by omega) (by rw [hkl]; omega) ?_
                intro v1 w5 hR5 hb5 hg5
                obtain ⟨A5, c5, rfl⟩ := Kd.R_slice hR5
                rw [hkl1.out] at hR5 ⊢
                have hblk5 := hb2d.beside hR2d hg5 (by omega)
                have y5 := cell_below hb5 y0d hgd
                have y6 := cell_below hb5 y1d hgd
                refine hK.out _ _ ⟨y5, y6⟩ (fun hHeld => ?_)
                clear hK K
                have r5 := hblk5.at 0 _ rfl
                have s5 := hblk5.free 0 _ rfl
                refine wpAnyH_take (i := 16) (oi := { dst := some 112, op := _, type := _, pos := _, after := _, guard := _ }) (v := .pointer (some ⟨W0.heap.size, 0, none⟩)) rfl (by kernel_rfl) (by kernel_rfl) (by kernel_rfl) (fun _ _ _ h => h) (Or.inl ⟨by rfl, by (intro w hSw; (try dsimp only at hSw); first | (go_simp; done) | (go_simp; with_reducible rfl) | (go_simp; omega) | (go_simp; simp [*]; done))⟩) (by assumption) ?_; try simp only [Act.put, List.setIfInBounds_toArray, List.set_cons_zero, List.set_cons_succ]
                refine wpAnyH_ready (rs := [17]) (by kernel_rfl) (by simp) ?_
                refine AllReadyH.cons (o := { dst := none, op := _, type := _, pos := _, after := _, guard := _ }) rfl (fun K hK => ?_) AllReadyH.nil
                go_simp
                refine hK.out _ _ ⟨cell_other' y5 m1 _, cell_other' y6 m1 _⟩ (fun hHeld => ?_)
                clear hK K
                refine wpAnyH_done (by kernel_rfl) ?_ _
                go_wp2_with fail
                go_roundw
                case rel => exact ⟨k + 1, .slice A5 (k + 1) c5, hlt, by go_num, hblk5.set 0 _ (by simp), R_elder (by rw [hnext.out]; exact hR5) (by simp) _, Below.setCell (Below.trans (show Below W0.heap.size W0 _ from (by repeat (first | exact Below.refl _ _ | apply below_alloc | apply pw_below_drewN | apply below_drew1 | (refine Below.setCell ?_ (by first | (simp; done) | (simp; omega) | omega) _) | exact hB2))) (hb5.mono (by omega))) (by simp) _⟩
                case measure => simp [intOf]; omega
              · have r0a := cell_alloc' r0d (.cells #[.string nm, .string (trimT vl)] 100)
                go_simp
                refine hK.out _ _ ⟨cell_alloc' y0d _, cell_alloc' y1d _⟩ (fun hHeld => ?_)
                clear hK K
                refine wpAnyH_ready (rs := [1]) (by kernel_rfl) (by simp) ?_
                refine AllReadyH.cons (o := { dst := some 97, op := _, type := _, pos := _, after := _, guard := _ }) rfl (fun K hK => ?_) AllReadyH.nil
                go_simp
                refine hK.out _ _ ⟨cell_alloc' y0d _, cell_alloc' y1d _⟩ (fun hHeld => ?_)
                clear hK K
                refine wpAnyH_ready (rs := [15]) (by kernel_rfl) (by simp) ?_
                refine AllReadyH.cons (o := { dst := some 111, op := _, type := _, pos := _, after := _, guard := _ }) rfl (fun K hK => ?_) AllReadyH.nil
                refine snoc_step rowAField (W0.heap.size + 1) (by rfl) (.tmp 97) (.tmp 110) (by rfl) (.slice A2 k c2) ((acc.map trimF).take k) ⟨nm, trimT vl⟩ [.string nm, .string (trimT vl)] (by rfl) (by rfl) rfl hR2d (by omega) (by rw [hkl]; omega) ?_
                intro v1 w5 hR5 hb5 hg5
                obtain ⟨A5, c5, rfl⟩ := Kd.R_slice hR5
                rw [hkl1.out] at hR5 ⊢
                have hblk5 := hb2d.beside hR2d hg5 (by omega)
                have y5 := cell_below hb5 y0d hgd
                have y6 := cell_below hb5 y1d hgd
                refine hK.out _ _ ⟨y5, y6⟩ (fun hHeld => ?_)
                clear hK K
                have r5 := hblk5.at 0 _ rfl
                have s5 := hblk5.free 0 _ rfl
                refine wpAnyH_take (i := 16) (oi := { dst := some 112, op := _, type := _, pos := _, after := _, guard := _ }) (v := .pointer (some ⟨W0.heap.size, 0, none⟩)) rfl (by kernel_rfl) (by kernel_rfl) (by kernel_rfl) (fun _ _ _ h => h) (Or.inl ⟨by rfl, by (intro w hSw; (try dsimp only at hSw); first | (go_simp; done) | (go_simp; with_reducible rfl) | (go_simp; omega) | (go_simp; simp [*]; done))⟩) (by assumption) ?_; try simp only [Act.put, List.setIfInBounds_toArray, List.set_cons_zero, List.set_cons_succ]
                refine wpAnyH_ready (rs := [17]) (by kernel_rfl) (by simp) ?_
                refine AllReadyH.cons (o := { dst := none, op := _, type := _, pos := _, after := _, guard := _ }) rfl (fun K hK => ?_) AllReadyH.nil
                go_simp
                refine hK.out _ _ ⟨cell_other' y5 m1 _, cell_other' y6 m1 _⟩ (fun hHeld => ?_)
                clear hK K
                refine wpAnyH_done (by kernel_rfl) ?_ _
                go_wp2_with fail
                go_roundw
                case rel => exact ⟨k + 1, .slice A5 (k + 1) c5, hlt, by go_num, hblk5.set 0 _ (by simp), R_elder (by rw [hnext.out]; exact hR5) (by simp) _, Below.setCell (Below.trans (show Below W0.heap.size W0 _ from (by repeat (first | exact Below.refl _ _ | apply below_alloc | apply pw_below_drewN | apply below_drew1 | (refine Below.setCell ?_ (by first | (simp; done) | (simp; omega) | omega) _) | exact hB2))) (hb5.mono (by omega))) (by simp) _⟩
                case measure => simp [intOf]; omega
          · obtain rfl : k = acc.length := by omega
            rw [List.take_of_length_le (by omega)] at hR2
            obtain ⟨A2, c2, rfl⟩ := Kd.R_slice hR2
            rw [hml] at hR2 hb2
            have hk0 := hblk.below hB2 hzw
            have k1 : ¬ ((acc.length : Int) < (acc.length : Int)) := by omega
            have q0 := (hk0).at 0 _ rfl
            have q1 := (hk0).at 1 _ rfl
            have p0 := (hk0).free 0 _ rfl
            have p1 := (hk0).free 1 _ rfl
            have r0 := hb2.at 0 _ rfl
            have r1 := hb2.at 1 _ rfl
            have n1 : ¬ w.heap.size = W0.heap.size := by omega
            have n2 : ¬ W0.heap.size = w.heap.size := by omega
            have hBf : Below w.heap.size w wr := hB.trans (hB2.mono (by omega))
            generalize s.extract (e + 2) s.size = body at *
            go_wp2_with fail
            refine bodyPost_ret (v := .tuple #[.agg #[.slice A2 acc.length c2, .string body], .int .i64 0, .int .i64 0]) (by simp [results, Tryd.results24, go_sem, *]) rfl ?_
            exact ⟨_, rfl, Kd.R_lower (R_elder (R_elder hR2 (by simp; omega) _) (by simp; omega) _) (by omega), (by repeat (first | exact Below.refl _ _ | apply below_alloc | apply pw_below_drewN | apply below_drew1 | (refine Below.setCell ?_ (by first | (simp; done) | (simp; omega) | omega) _) | exact hBf))⟩
      · have his : i < s.size := by omega
        have hl0 : 0 < (s.extract i e).size := by omega
        have hc0 : (s.extract i e)[0] = s[i] := by rw [ByteArray.getElem_extract]; rfl
        have hLe := line_some hl0
        have hbl := bl_nx his
        rw [← hc0] at hbl
        have HBl := fun w => blank_calls (s.extract i e)[0] w
        rw [hbl] at HBl
        clear hbl hc0
        by_cases hb : nx s i = 32 ∨ nx s i = 9
        · rw [decide_eq_true hb] at HBl
          have HBl := Lib.hid HBl
          by_cases hne : acc = []
          · have hb : ¬ ((nx s i = 32 ∨ nx s i = 9) ∧ acc ≠ []) := fun h => h.2 hne
            have hal0 : acc.length = 0 := by rw [hne]; rfl
            have hal1 : ¬ (0 : Int) < (acc.length : Int) := by omega
            have hal2 := Lib.hid hal0
            clear hne hal0
            have HC := fun w => colonAt_calls (s.extract i e) w (by omega)
            rw [hsz, colon_line s i e hie (by omega)] at HC
            have hcge := span_ge notColon s i hi
            have hpn := fun c hc hn => parse_name (ln := ln) (l := acc) (c := c) hE (by omega) hes hb hc hn
            have hpy := fun c hc hn hl => parse_many (ln := ln) (l := acc) (c := c) hE (by omega) hes hb hc hn hl
            have hpx := fun c hc hn hl => parse_next (ln := ln) (l := acc) (c := c) hE (by omega) hes hb hc hn hl
            rw [hR] at hpn hpy hpx
            generalize hcD : spanEnd notColon s i = c at *
            clear hR hE hb
            by_cases hec : e ≤ c
            · rw [if_pos hec, if_neg (by omega)] at HC
              have hq := hpn c rfl (.inl hec)
              subst hq
              have HC := Lib.hid HC
              clear hpn hpy hpx hec hcD
              have q0 := (hblk).at 0 _ rfl
              have q1 := (hblk).at 1 _ rfl
              have p0 := (hblk).free 0 _ rfl
              have p1 := (hblk).free 1 _ rfl
              go_wp2_with fail
              refine (HL.out _).mono ?_
              rintro e w1 ⟨rfl, rfl⟩
              go_wp2_with (first | (go_at_call 68; refine (HBl.out _).mono ?_; rintro e w1 ⟨rfl, rfl⟩) | (go_at_call 69; refine (HC.out _).mono ?_; rintro e w1 ⟨rfl, rfl⟩))
              refine bodyPost_ret (v := .tuple #[.agg #[.slice none 0 0, .string ⟨#[]⟩], .int .i64 ln, .int .i64 3]) (by simp [results, Tryd.results24, go_sem, *]) rfl ?_
              exact ⟨_, rfl, Kd.R_nil _ _ _ _ _, (by repeat (first | exact Below.refl _ _ | apply below_alloc | apply pw_below_drewN | apply below_drew1 | (refine Below.setCell ?_ (by first | (simp; done) | (simp; omega) | omega) _) | exact hB))⟩
            · obtain ⟨d, rfl⟩ : ∃ d, c = i + d := ⟨c - i, by omega⟩
              rw [if_neg hec, show i + d - i = d by omega, if_pos (by omega)] at HC
              have hN : (s.extract i e).extract 0 d = s.extract i (i + d) := ext_ext s (by omega) (by omega)
              have hV : (s.extract i e).extract (d + 1) (s.extract i e).size = s.extract (i + d + 1) e := by rw [hsz, ext_ext s (by omega) (by omega)]; congr 1; omega
              have d6 : IntKind.i64.wrap ((d : Int) + 1) = (d : Int) + 1 := by rw [IntKind.wrap_i64]; omega
              have d7 : ((d : Int) + 1).toNat = d + 1 := by omega
              have d8 : d < e - i := by omega
              have d9 : (d : Int) < ((e - i : Nat) : Int) := by omega
              have d10 : (d : Int) + 1 ≤ ((e - i : Nat) : Int) := by omega
              have hV2 : (s.extract i e).extract (d + 1) (e - i) = s.extract (i + d + 1) e := by rw [← hsz]; exact hV
              have HM := fun w => nameMay_calls (s.extract i (i + d)) w (by rw [ext_size (by omega)]; omega)
              have HC := Lib.hid HC
              have d1 : ¬ (d : Int) < 0 := by omega
              have d2 : (0 : Int) ≤ (d : Int) := by omega
              have d3 : (d : Int) ≤ ((s.extract i e).size : Int) := by omega
              have d4 : (d : Int) + 1 ≤ ((s.extract i e).size : Int) := by omega
              have d5 : (0 : Int) ≤ (d : Int) + 1 := by omega
              have hvz : (s.extract (i + d + 1) e).size ≤ e + 2 := by rw [ext_size (by omega)]; omega
              cases hnm : nameOk (s.extract i (i + d)) with
              | false =>
                have hq := hpn (i + d) rfl (.inr hnm)
                subst hq
                rw [hnm] at HM
                have HM := Lib.hid HM
                clear hpn hpy hpx hec hcD hnm
                have q0 := (hblk).at 0 _ rfl
                have q1 := (hblk).at 1 _ rfl
                have p0 := (hblk).free 0 _ rfl
                have p1 := (hblk).free 1 _ rfl
                go_wp2_with fail
                refine (HL.out _).mono ?_
                rintro e w1 ⟨rfl, rfl⟩
                go_wp2_with (first | (go_at_call 68; refine (HBl.out _).mono ?_; rintro e w1 ⟨rfl, rfl⟩) | (go_at_call 69; refine (HC.out _).mono ?_; rintro e w1 ⟨rfl, rfl⟩) | (go_at_call 70; refine (HM.out _).mono ?_; rintro e w1 ⟨rfl, rfl⟩))
                refine bodyPost_ret (v := .tuple #[.agg #[.slice none 0 0, .string ⟨#[]⟩], .int .i64 ln, .int .i64 3]) (by simp [results, Tryd.results24, go_sem, *]) rfl ?_
                exact ⟨_, rfl, Kd.R_nil _ _ _ _ _, (by repeat (first | exact Below.refl _ _ | apply below_alloc | apply pw_below_drewN | apply below_drew1 | (refine Below.setCell ?_ (by first | (simp; done) | (simp; omega) | omega) _) | exact hB))⟩
              | true =>
                have hno : ¬ (e ≤ i + d ∨ nameOk (s.extract i (i + d)) = false) := by rw [hnm]; exact fun h => h.elim (fun h => hec (by omega)) (fun h => by cases h)
                rw [hnm] at HM
                have HM := Lib.hid HM
                by_cases h30 : acc.length = 30
                · first | (exfalso; omega) | skip
                  all_goals
                    have hq := hpy (i + d) rfl hno h30
                    subst hq
                    have e30 : ((acc.length : Int) == 30) = true := by rw [beq_iff_eq]; omega
                    clear hpn hpy hpx hec hcD hnm hno
                    have q0 := (hblk).at 0 _ rfl
                    have q1 := (hblk).at 1 _ rfl
                    have p0 := (hblk).free 0 _ rfl
                    have p1 := (hblk).free 1 _ rfl
                    go_wp2_with fail
                    refine (HL.out _).mono ?_
                    rintro e w1 ⟨rfl, rfl⟩
                    go_wp2_with (first | (go_at_call 68; refine (HBl.out _).mono ?_; rintro e w1 ⟨rfl, rfl⟩) | (go_at_call 69; refine (HC.out _).mono ?_; rintro e w1 ⟨rfl, rfl⟩) | (go_at_call 70; refine (HM.out _).mono ?_; rintro e w1 ⟨rfl, rfl⟩))
                    refine bodyPost_ret (v := .tuple #[.agg #[.slice none 0 0, .string ⟨#[]⟩], .int .i64 ln, .int .i64 5]) (by simp [results, Tryd.results24, go_sem, *]) rfl ?_
                    exact ⟨_, rfl, Kd.R_nil _ _ _ _ _, (by repeat (first | exact Below.refl _ _ | apply below_alloc | apply pw_below_drewN | apply below_drew1 | (refine Below.setCell ?_ (by first | (simp; done) | (simp; omega) | omega) _) | exact hB))⟩
                · have hq := hpx (i + d) rfl hno h30
                  have e30 : ((acc.length : Int) == 30) = false := by rw [beq_eq_false_iff_ne]; omega
                  have hq := Lib.hid hq
                  clear hpn hpy hpx hec hcD hnm hno
                  go_wp2_with fail
                  refine (HL.out _).mono ?_
                  rintro e w1 ⟨rfl, rfl⟩
                  go_wp2_with (first | (go_at_call 68; refine (HBl.out _).mono ?_; rintro e w1 ⟨rfl, rfl⟩) | (go_at_call 69; refine (HC.out _).mono ?_; rintro e w1 ⟨rfl, rfl⟩) | (go_at_call 70; refine (HM.out _).mono ?_; rintro e w1 ⟨rfl, rfl⟩))
                  generalize s.extract i e = L at *
                  generalize s.extract i (i + d) = nm at *
                  generalize s.extract (i + d + 1) e = vl at *
                  go_region_held3 (fun _ => True) (first | exact trivial | go_keep)
                    ((refine snoc_step rowAField (w.heap.size + 1) (by rfl) (.tmp 75) (.tmp 84) (by rfl) (.slice A0 acc.length cap0) acc ⟨nm, vl⟩ [.string nm, .string vl] (by rfl) (by rfl) rfl (Kd.R_drew hRow) (by first | (simp; done) | (simp; omega) | omega) (by omega) ?_; intro v1 w5 hR1 hb5 hg5))
                  go_wp2_with fail
                  go_roundw
                  case rel => exact ⟨e + 2, ln + 1, _, hes, by omega, by go_num, by go_num, hR1, by simp; omega, (fun x hx => by
                    rcases List.mem_append.1 hx with h | h
                    · have := hval x h; omega
                    · rw [List.mem_singleton.1 h]; exact hvz), (hblk.drew).below hb5 (by omega), hq.out.symm, Below.trans (show Below w.heap.size w _ from (by repeat (first | exact Below.refl _ _ | apply below_alloc | apply pw_below_drewN | apply below_drew1 | (refine Below.setCell ?_ (by first | (simp; done) | (simp; omega) | omega) _) | exact hB))) (hb5.mono (by omega))⟩
                  case measure => simp [intOf]; omega
          · have hpm := parse_more (ln := ln) hE (by omega) hes hb hne
            rw [hR] at hpm
            have hpm := Lib.hid hpm
            have hal : 0 < acc.length := List.length_pos_iff.2 hne
            obtain ⟨g, cap, hv, hg1, hg2⟩ := fields_at hRow hal
            injection hv with hv1 _ hv3
            subst hv1
            subst hv3
            obtain ⟨n, hn⟩ : ∃ n, acc.length = n + 1 := ⟨acc.length - 1, by omega⟩
            rw [hn] at hRow ⊢
            obtain ⟨y0, y1, z0, z1⟩ := fields_cells hRow n (by omega)
            have hst := fun x => fields_set hRow n (by omega) x
            have hvs := hval acc[n] (List.getElem_mem _)
            have hadd : addLast acc (s.extract i e) = acc.set n ⟨acc[n].name, acc[n].value ++ s.extract i e⟩ := by
              unfold addLast
              rw [show acc.length - 1 = n by omega, List.getD_eq_getElem?_getD, List.getElem?_eq_getElem (by omega : n < acc.length)]; rfl
            have hsum : (acc[n].value.size : Int) + (s.extract i e).size ≤ 9223372036854775807 := by omega
            have hgt : (0 : Int) < ((n + 1 : Nat) : Int) := by omega
            have j1 : (0 : Int) ≤ (n : Int) := by omega
            have j2 : (n : Int) < (n : Int) + 1 := by omega
            have hst := Lib.hid hst
            have hadd := Lib.hid hadd
            have hval' := Lib.hid hval
            have hnl : n < acc.length := by omega
            have hmem : ∀ y : AField, y.value.size ≤ e + 2 → ∀ x ∈ acc.set n y, x.value.size ≤ e + 2 := fun y hy x hx => by
              rcases List.mem_or_eq_of_mem_set hx with h | h
              · have := hval x h; omega
              · rw [h]; exact hy
            have hmem := Lib.hid hmem
            clear hE hb hne hR hval hal hval'
            generalize acc[n].value = av at *
            generalize acc[n].name = an at *
            go_wp2_with fail
            refine (HL.out _).mono ?_
            rintro e w1 ⟨rfl, rfl⟩
            go_wp2_with (go_at_call 68; refine (HBl.out _).mono ?_; rintro e w1 ⟨rfl, rfl⟩)
            go_roundw
            case rel => exact ⟨e + 2, ln + 1, _, hes, by omega, by go_num, by go_num, (hst.out (av ++ s.extract i e)).1, by simp; omega, hmem.out _ (by simp; omega), hblk.other (by omega) _, by rw [← hadd.out]; exact hpm.out.symm, (by repeat (first | exact Below.refl _ _ | apply below_alloc | apply pw_below_drewN | apply below_drew1 | (refine Below.setCell ?_ (by first | (simp; done) | (simp; omega) | omega) _) | exact hB))⟩
            case measure => simp [intOf]; omega
        · rw [decide_eq_false hb] at HBl
          have HBl := Lib.hid HBl
          replace hb : ¬ ((nx s i = 32 ∨ nx s i = 9) ∧ acc ≠ []) := fun h => hb h.1
          have HC := fun w => colonAt_calls (s.extract i e) w (by omega)
          rw [hsz, colon_line s i e hie (by omega)] at HC
          have hcge := span_ge notColon s i hi
          have hpn := fun c hc hn => parse_name (ln := ln) (l := acc) (c := c) hE (by omega) hes hb hc hn
          have hpy := fun c hc hn hl => parse_many (ln := ln) (l := acc) (c := c) hE (by omega) hes hb hc hn hl
          have hpx := fun c hc hn hl => parse_next (ln := ln) (l := acc) (c := c) hE (by omega) hes hb hc hn hl
          rw [hR] at hpn hpy hpx
          generalize hcD : spanEnd notColon s i = c at *
          clear hR hE hb
          by_cases hec : e ≤ c
          · rw [if_pos hec, if_neg (by omega)] at HC
            have hq := hpn c rfl (.inl hec)
            subst hq
            have HC := Lib.hid HC
            clear hpn hpy hpx hec hcD
            have q0 := (hblk).at 0 _ rfl
            have q1 := (hblk).at 1 _ rfl
            have p0 := (hblk).free 0 _ rfl
            have p1 := (hblk).free 1 _ rfl
            go_wp2_with fail
            refine (HL.out _).mono ?_
            rintro e w1 ⟨rfl, rfl⟩
            go_wp2_with (first | (go_at_call 68; refine (HBl.out _).mono ?_; rintro e w1 ⟨rfl, rfl⟩) | (go_at_call 69; refine (HC.out _).mono ?_; rintro e w1 ⟨rfl, rfl⟩))
            refine bodyPost_ret (v := .tuple #[.agg #[.slice none 0 0, .string ⟨#[]⟩], .int .i64 ln, .int .i64 3]) (by simp [results, Tryd.results24, go_sem, *]) rfl ?_
            exact ⟨_, rfl, Kd.R_nil _ _ _ _ _, (by repeat (first | exact Below.refl _ _ | apply below_alloc | apply pw_below_drewN | apply below_drew1 | (refine Below.setCell ?_ (by first | (simp; done) | (simp; omega) | omega) _) | exact hB))⟩
          · obtain ⟨d, rfl⟩ : ∃ d, c = i + d := ⟨c - i, by omega⟩
            rw [if_neg hec, show i + d - i = d by omega, if_pos (by omega)] at HC
            have hN : (s.extract i e).extract 0 d = s.extract i (i + d) := ext_ext s (by omega) (by omega)
            have hV : (s.extract i e).extract (d + 1) (s.extract i e).size = s.extract (i + d + 1) e := by rw [hsz, ext_ext s (by omega) (by omega)]; congr 1; omega
            have d6 : IntKind.i64.wrap ((d : Int) + 1) = (d : Int) + 1 := by rw [IntKind.wrap_i64]; omega
            have d7 : ((d : Int) + 1).toNat = d + 1 := by omega
            have d8 : d < e - i := by omega
            have d9 : (d : Int) < ((e - i : Nat) : Int) := by omega
            have d10 : (d : Int) + 1 ≤ ((e - i : Nat) : Int) := by omega
            have hV2 : (s.extract i e).extract (d + 1) (e - i) = s.extract (i + d + 1) e := by rw [← hsz]; exact hV
            have HM := fun w => nameMay_calls (s.extract i (i + d)) w (by rw [ext_size (by omega)]; omega)
            have HC := Lib.hid HC
            have d1 : ¬ (d : Int) < 0 := by omega
            have d2 : (0 : Int) ≤ (d : Int) := by omega
            have d3 : (d : Int) ≤ ((s.extract i e).size : Int) := by omega
            have d4 : (d : Int) + 1 ≤ ((s.extract i e).size : Int) := by omega
            have d5 : (0 : Int) ≤ (d : Int) + 1 := by omega
            have hvz : (s.extract (i + d + 1) e).size ≤ e + 2 := by rw [ext_size (by omega)]; omega
            cases hnm : nameOk (s.extract i (i + d)) with
            | false =>
              have hq := hpn (i + d) rfl (.inr hnm)
              subst hq
              rw [hnm] at HM
              have HM := Lib.hid HM
              clear hpn hpy hpx hec hcD hnm
              have q0 := (hblk).at 0 _ rfl
              have q1 := (hblk).at 1 _ rfl
              have p0 := (hblk).free 0 _ rfl
              have p1 := (hblk).free 1 _ rfl
              go_wp2_with fail
              refine (HL.out _).mono ?_
              rintro e w1 ⟨rfl, rfl⟩
              go_wp2_with (first | (go_at_call 68; refine (HBl.out _).mono ?_; rintro e w1 ⟨rfl, rfl⟩) | (go_at_call 69; refine (HC.out _).mono ?_; rintro e w1 ⟨rfl, rfl⟩) | (go_at_call 70; refine (HM.out _).mono ?_; rintro e w1 ⟨rfl, rfl⟩))
              refine bodyPost_ret (v := .tuple #[.agg #[.slice none 0 0, .string ⟨#[]⟩], .int .i64 ln, .int .i64 3]) (by simp [results, Tryd.results24, go_sem, *]) rfl ?_
              exact ⟨_, rfl, Kd.R_nil _ _ _ _ _, (by repeat (first | exact Below.refl _ _ | apply below_alloc | apply pw_below_drewN | apply below_drew1 | (refine Below.setCell ?_ (by first | (simp; done) | (simp; omega) | omega) _) | exact hB))⟩
            | true =>
              have hno : ¬ (e ≤ i + d ∨ nameOk (s.extract i (i + d)) = false) := by rw [hnm]; exact fun h => h.elim (fun h => hec (by omega)) (fun h => by cases h)
              rw [hnm] at HM
              have HM := Lib.hid HM
              by_cases h30 : acc.length = 30
              · first | (exfalso; omega) | skip
                all_goals
                  have hq := hpy (i + d) rfl hno h30
                  subst hq
                  have e30 : ((acc.length : Int) == 30) = true := by rw [beq_iff_eq]; omega
                  clear hpn hpy hpx hec hcD hnm hno
                  have q0 := (hblk).at 0 _ rfl
                  have q1 := (hblk).at 1 _ rfl
                  have p0 := (hblk).free 0 _ rfl
                  have p1 := (hblk).free 1 _ rfl
                  go_wp2_with fail
                  refine (HL.out _).mono ?_
                  rintro e w1 ⟨rfl, rfl⟩
                  go_wp2_with (first | (go_at_call 68; refine (HBl.out _).mono ?_; rintro e w1 ⟨rfl, rfl⟩) | (go_at_call 69; refine (HC.out _).mono ?_; rintro e w1 ⟨rfl, rfl⟩) | (go_at_call 70; refine (HM.out _).mono ?_; rintro e w1 ⟨rfl, rfl⟩))
                  refine bodyPost_ret (v := .tuple #[.agg #[.slice none 0 0, .string ⟨#[]⟩], .int .i64 ln, .int .i64 5]) (by simp [results, Tryd.results24, go_sem, *]) rfl ?_
                  exact ⟨_, rfl, Kd.R_nil _ _ _ _ _, (by repeat (first | exact Below.refl _ _ | apply below_alloc | apply pw_below_drewN | apply below_drew1 | (refine Below.setCell ?_ (by first | (simp; done) | (simp; omega) | omega) _) | exact hB))⟩
              · have hq := hpx (i + d) rfl hno h30
                have e30 : ((acc.length : Int) == 30) = false := by rw [beq_eq_false_iff_ne]; omega
                have hq := Lib.hid hq
                clear hpn hpy hpx hec hcD hnm hno
                go_wp2_with fail
                refine (HL.out _).mono ?_
                rintro e w1 ⟨rfl, rfl⟩
                go_wp2_with (first | (go_at_call 68; refine (HBl.out _).mono ?_; rintro e w1 ⟨rfl, rfl⟩) | (go_at_call 69; refine (HC.out _).mono ?_; rintro e w1 ⟨rfl, rfl⟩) | (go_at_call 70; refine (HM.out _).mono ?_; rintro e w1 ⟨rfl, rfl⟩))
                generalize s.extract i e = L at *
                generalize s.extract i (i + d) = nm at *
                generalize s.extract (i + d + 1) e = vl at *
                go_region_held3 (fun _ => True) (first | exact trivial | go_keep)
                  ((refine snoc_step rowAField (w.heap.size + 1) (by rfl) (.tmp 75) (.tmp 84) (by rfl) (.slice A0 acc.length cap0) acc ⟨nm, vl⟩ [.string nm, .string vl] (by rfl) (by rfl) rfl (Kd.R_drew hRow) (by first | (simp; done) | (simp; omega) | omega) (by omega) ?_; intro v1 w5 hR1 hb5 hg5))
                go_wp2_with fail
                go_roundw
                case rel => exact ⟨e + 2, ln + 1, _, hes, by omega, by go_num, by go_num, hR1, by simp; omega, (fun x hx => by
                  rcases List.mem_append.1 hx with h | h
                  · have := hval x h; omega
                  · rw [List.mem_singleton.1 h]; exact hvz), (hblk.drew).below hb5 (by omega), hq.out.symm, Below.trans (show Below w.heap.size w _ from (by repeat (first | exact Below.refl _ _ | apply below_alloc | apply pw_below_drewN | apply below_drew1 | (refine Below.setCell ?_ (by first | (simp; done) | (simp; omega) | omega) _) | exact hB))) (hb5.mono (by omega))⟩
                case measure => simp [intOf]; omega
end Go.Proofs.YtpeenmbonhijmaaDoor.H
