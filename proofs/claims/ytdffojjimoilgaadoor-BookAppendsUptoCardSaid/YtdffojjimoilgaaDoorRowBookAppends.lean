/- The law BookAppends answers true at every tape and batch of small bulk: book.Append answers as the reference's TapeAppended, and changes nothing. -/
import Derived.Test.YtdffojjimoilgaaDoorCards
import Derived.Test.YtdffojjimoilgaaDoorTie
import Derived.Test.YtdffojjimoilgaaDoorOpensU
import Derived.Test.YtdffojjimoilgaaDoorLaid
import Derived.Test.YtdffojjimoilgaaDoorBase
import Derived.WalkKit
import Derived.ProofKit
import Derived.OpenShut
import Derived.ShutString
import Derived.ChangeOld
import Derived.Below
import Derived.Carry
import Derived.SevenTiedAt
import Derived.Test.YtdffojjimoilgaaDoorKinds
import Derived.Test.YtdffojjimoilgaaDoorAppB
import Derived.Shelf.Vars
namespace Go.Proofs.YtdffojjimoilgaaDoor.H
open Go.RowKit Go.Proofs.YtdffojjimoilgaaDoorW.PrintWords Go.Proofs.YtdffojjimoilgaaDoorW.PrintLast Go.Proofs.YtdffojjimoilgaaDoorW.PrintMore Go.Proofs.YtdffojjimoilgaaDoor.U
set_option linter.unusedVariables false
set_option linter.unusedSimpArgs false
set_option maxHeartbeats 2000000 in
set_option maxRecDepth 100000 in
theorem bookAppends_walk (A : Option Addr) (c : Nat) (l : List Int) (s : Int) (u : Int) (A2 : Option Addr) (c2 : Nat) (es : List AEntry) (m : Int) (w : World) (hr : Kd.C (Kd.int .u8) w A l.length l) (hl : l.length ≤ 1048576) (hr2 : Kd.C kAEntry w A2 es.length es) (hl2 : es.length ≤ 1048576) (hs : ∀ x ∈ es, okE x)
    (hm : w.cell? ⟨0, 0, none⟩ = some (.int .i64 m)) (hg : 0 < w.heap.size) :
    Calls Tryd.prog 6 #[.agg #[.slice A l.length c, .int .i64 s], .agg #[.int .i64 u, .slice A2 es.length c2]] w fun e w' => e = .returned (.bool true) ∧ Below w.heap.size w w' := by
  have HB := Lib.hid (fun w hr => batch_calls u A2 c2 es w hr (by omega))
  have HA := fun A c A2 c2 w hr hr2 hm hg => append_calls A c l s u A2 c2 es m w hr hl hr2 hs hm hg
  have HT := fun w hr hr2 => tapeAppended_calls A c l s u A2 c2 es w hr hl hr2 hs
  generalize appV l s u es = R at *
  obtain ⟨n, ds, sy⟩ := R
  replace HA := Lib.hid HA
  replace HT := Lib.hid HT
  obtain ⟨W2, hW2⟩ : ∃ W2 : World, W2 = (w.alloc (.cells #[.slice A l.length c, .int .i64 s] 37)).alloc (.cells #[.int .i64 u, .slice A2 es.length c2] 24) := ⟨_, rfl⟩
  have h20 : BlkT W2 w.heap.size 37 [.slice A l.length c, .int .i64 s] := by rw [hW2]; exact (BlkT.made w _ _).alloc _
  have h30 : BlkT W2 (w.heap.size + 1) 24 [.int .i64 u, .slice A2 es.length c2] := by rw [hW2]; exact BlkT.made_at _ _ _ (by simp)
  have hB0 : Below w.heap.size w W2 := by rw [hW2]; exact (by repeat (first | exact Below.refl _ _ | apply below_alloc | apply pw_below_drewN | apply below_drew1 | (refine Below.setCell ?_ (by first | (simp; done) | (simp; omega) | omega) _) ))
  have hz0 : W2.heap.size = w.heap.size + 2 := by rw [hW2]; simp
  replace hW2 := Lib.hid hW2
  go_enter Tryd.func6, Tryd.ntmps6
  go_wp2_with fail
  rw [← hW2.out]
  refine (tapes_calls A c l s W2 (Kd.C_below hr hB0) (by omega)).mono ?_
  rintro e w1 ⟨v1, rfl, hR1, hb1⟩
  obtain ⟨A1, c1, rfl⟩ := Kd.R_slice hR1
  have hz1 := hb1.size
  obtain ⟨Wa, hWa⟩ : ∃ Wa : World, Wa = w1.alloc (.cells #[.slice A1 l.length c1, .int .i64 s] 37) := ⟨_, rfl⟩
  have h5 : BlkT Wa w1.heap.size 37 [.slice A1 l.length c1, .int .i64 s] := by rw [hWa]; exact BlkT.made w1 _ _
  have h3 : BlkT Wa (w.heap.size + 1) 24 [.int .i64 u, .slice A2 es.length c2] := by rw [hWa]; exact (h30.below hb1 (by omega)).alloc _
  have h2 : BlkT Wa w.heap.size 37 [.slice A l.length c, .int .i64 s] := by rw [hWa]; exact (h20.below hb1 (by omega)).alloc _
  have hB1 : Below w.heap.size w Wa := by rw [hWa]; exact below_alloc' (hB0.trans (hb1.mono (by omega))) (by omega) _
  have hR1' : (Kd.int .u8).R 5 Wa W2.heap.size (fun _ => True) (.slice A1 l.length c1) l := by rw [hWa]; exact Kd.R_below hR1 (by repeat (first | exact Below.refl _ _ | apply below_alloc | apply pw_below_drewN | apply below_drew1 | (refine Below.setCell ?_ (by first | (simp; done) | (simp; omega) | omega) _) ))
  have hza : Wa.heap.size = w1.heap.size + 1 := by rw [hWa]; simp
  replace hWa := Lib.hid hWa
  clear h20 h30 hB0 hR1 hb1
  have hd : Below Wa.heap.size Wa Wa.drew := (by repeat (first | exact Below.refl _ _ | apply below_alloc | apply pw_below_drewN | apply below_drew1 | (refine Below.setCell ?_ (by first | (simp; done) | (simp; omega) | omega) _) ))
  have h5d := h5.below hd (by omega)
  have h3d := h3.below hd (by omega)
  have h2d := h2.below hd (by omega)
  have hBd := hB1.trans (hd.mono (by omega))
  have hzd : Wa.drew.heap.size = w1.heap.size + 1 := by simp; omega
  have hR1d := Kd.R_below hR1' hd
  clear hd
  go_wp2_with fail
  rw [← hWa.out]
  refine wp_region_held_drew (S := fun w' => (w'.cell? ⟨w1.heap.size, 0, none⟩ = some (.slice A1 l.length c1) ∧ w'.cell? ⟨w1.heap.size, 1, none⟩ = some (.int .i64 s)) ∧ w'.cell? ⟨w.heap.size + 1, 0, none⟩ = some (.int .i64 u) ∧ w'.cell? ⟨w.heap.size + 1, 1, none⟩ = some (.slice A2 es.length c2)) (by kernel_rfl) ?_ (fun hHeld => ?_)
  · exact ⟨⟨(h5d).1.at 0 _ rfl, (h5d).1.at 1 _ rfl⟩, (h3d).1.at 0 _ rfl, (h3d).1.at 1 _ rfl⟩
  refine wpAnyH_take (i := 0) (oi := { dst := some 13, op := _, type := _, pos := _, after := _, guard := _ }) (v := .agg #[.slice A1 l.length c1, .int .i64 s]) rfl (by kernel_rfl) (by kernel_rfl) (by kernel_rfl) (fun _ _ _ h => h) (Or.inl ⟨by rfl, by (intro w hSw; (try dsimp only at hSw); first | (go_simp; done) | (go_simp; with_reducible rfl) | (go_simp; omega) | (go_simp; simp [*]; done))⟩) (by assumption) ?_; try simp only [Act.put, List.setIfInBounds_toArray, List.set_cons_zero, List.set_cons_succ]
  refine wpAnyH_take (i := 1) (oi := { dst := some 14, op := _, type := _, pos := _, after := _, guard := _ }) (v := .agg #[.int .i64 u, .slice A2 es.length c2]) rfl (by kernel_rfl) (by kernel_rfl) (by kernel_rfl) (fun _ _ _ h => h) (Or.inl ⟨by rfl, by (intro w hSw; (try dsimp only at hSw); first | (go_simp; done) | (go_simp; with_reducible rfl) | (go_simp; omega) | (go_simp; simp [*]; done))⟩) (by assumption) ?_; try simp only [Act.put, List.setIfInBounds_toArray, List.set_cons_zero, List.set_cons_succ]
  refine wpAnyH_ready (rs := [2, 7]) (by kernel_rfl) (by simp) ?_
  refine AllReadyH.cons (o := { dst := some 15, op := _, type := _, pos := _, after := _, guard := _ }) rfl (fun K hK => ?_) (AllReadyH.cons (o := { dst := some 6, op := _, type := _, pos := _, after := _, guard := _ }) rfl (fun K hK => ?_) AllReadyH.nil)
  · go_simp
    go_at_call 13
    refine (HB.out _ (Kd.C_below hr2 hBd)).mono ?_
    rintro e Xb ⟨Ab, cb, rfl, hRb, hbb⟩
    have hCb := C_ofR hRb
    have hzb := hbb.size
    have hBb := (hBd).trans (hbb.mono (by omega))
    have h5b := (h5d).below hbb (by omega)
    have h3b := (h3d).below hbb (by omega)
    have h2b := (h2d).below hbb (by omega)
    have hR1b := Kd.R_below hR1d hbb
    go_wp2_with fail
    refine hK.out _ _ ⟨⟨(h5b).1.at 0 _ rfl, (h5b).1.at 1 _ rfl⟩, (h3b).1.at 0 _ rfl, (h3b).1.at 1 _ rfl⟩ (fun hHeld => ?_)
    clear hK K
    refine wpAnyH_ready (rs := [3, 7]) (by kernel_rfl) (by simp) ?_
    refine AllReadyH.cons (o := { dst := some 16, op := _, type := _, pos := _, after := _, guard := _ }) rfl (fun K hK => ?_) (AllReadyH.cons (o := { dst := some 6, op := _, type := _, pos := _, after := _, guard := _ }) rfl (fun K hK => ?_) AllReadyH.nil)
    · go_simp
      go_at_call 21
      refine (HA.out _ _ _ _ _ (C_ofR hR1b) hCb (cell_below hBb hm hg) (by omega)).mono ?_
      intro e Xa hw
      obtain ⟨v6, rfl, hR6, hba⟩ := hw
      simp only at hR6 ⊢
      obtain ⟨A6, c6, rfl⟩ := Kd.R_slice hR6
      have hzx := hba.size
      have hBa := (hBb).trans (hba.mono (by omega))
      have h5a := (h5b).below hba (by omega)
      have h3a := (h3b).below hba (by omega)
      have h2a := (h2b).below hba (by omega)
      have hR1a := Kd.R_below hR1b hba
      go_wp2_with fail
      refine hK.out _ _ ⟨⟨(h5a).1.at 0 _ rfl, (h5a).1.at 1 _ rfl⟩, (h3a).1.at 0 _ rfl, (h3a).1.at 1 _ rfl⟩ (fun hHeld => ?_)
      clear hK K
      refine wpAnyH_take (i := 4) (oi := { dst := some 12, op := _, type := _, pos := _, after := _, guard := _ }) (v := .tuple #[.agg #[.slice A6 ds.length c6, .int .i64 sy], .int .i64 n]) rfl (by kernel_rfl) (by kernel_rfl) (by kernel_rfl) (fun _ _ _ h => h) (Or.inl ⟨by rfl, by (intro w hSw; (try dsimp only at hSw); first | (go_simp; done) | (go_simp; with_reducible rfl) | (go_simp; omega) | (go_simp; simp [*]; done))⟩) (by assumption) ?_; try simp only [Act.put, List.setIfInBounds_toArray, List.set_cons_zero, List.set_cons_succ]
      refine wpAnyH_take (i := 5) (oi := { dst := some 17, op := _, type := _, pos := _, after := _, guard := _ }) (v := .agg #[.slice A6 ds.length c6, .int .i64 sy]) rfl (by kernel_rfl) (by kernel_rfl) (by kernel_rfl) (fun _ _ _ h => h) (Or.inl ⟨by rfl, by (intro w hSw; (try dsimp only at hSw); first | (go_simp; done) | (go_simp; with_reducible rfl) | (go_simp; omega) | (go_simp; simp [*]; done))⟩) (by assumption) ?_; try simp only [Act.put, List.setIfInBounds_toArray, List.set_cons_zero, List.set_cons_succ]
      refine wpAnyH_take (i := 6) (oi := { dst := some 18, op := _, type := _, pos := _, after := _, guard := _ }) (v := .int .i64 n) rfl (by kernel_rfl) (by kernel_rfl) (by kernel_rfl) (fun _ _ _ h => h) (Or.inl ⟨by rfl, by (intro w hSw; (try dsimp only at hSw); first | (go_simp; done) | (go_simp; with_reducible rfl) | (go_simp; omega) | (go_simp; simp [*]; done))⟩) (by assumption) ?_; try simp only [Act.put, List.setIfInBounds_toArray, List.set_cons_zero, List.set_cons_succ]
      refine wpAnyH_ready (rs := [7]) (by kernel_rfl) (by simp) ?_
      refine AllReadyH.cons (o := { dst := some 6, op := _, type := _, pos := _, after := _, guard := _ }) rfl (fun K hK => ?_) AllReadyH.nil
      go_simp
      refine hK.out _ _ ⟨⟨(h5a.alloc _).1.at 0 _ rfl, (h5a.alloc _).1.at 1 _ rfl⟩, (h3a.alloc _).1.at 0 _ rfl, (h3a.alloc _).1.at 1 _ rfl⟩ (fun hHeld => ?_)
      clear hK K
      have hP10 := Blk.made Xa #[.slice A6 ds.length c6, .int .i64 sy] 37
      have h5x := h5a.1.alloc (.cells #[.slice A6 ds.length c6, .int .i64 sy] 37)
      have h3x := h3a.1.alloc (.cells #[.slice A6 ds.length c6, .int .i64 sy] 37)
      have h2x := h2a.1.alloc (.cells #[.slice A6 ds.length c6, .int .i64 sy] 37)
      have hBx : Below w.heap.size w (Xa.alloc (.cells #[.slice A6 ds.length c6, .int .i64 sy] 37)) := (by repeat (first | exact Below.refl _ _ | apply below_alloc | apply pw_below_drewN | apply below_drew1 | (refine Below.setCell ?_ (by first | (simp; done) | (simp; omega) | omega) _) | exact hBa))
      have hR1x : (Kd.int .u8).R 5 (Xa.alloc (.cells #[.slice A6 ds.length c6, .int .i64 sy] 37)) _ _ _ _ := Kd.R_below hR1a (by repeat (first | exact Below.refl _ _ | apply below_alloc | apply pw_below_drewN | apply below_drew1 | (refine Below.setCell ?_ (by first | (simp; done) | (simp; omega) | omega) _) ))
      have hR6x : (Kd.int .u8).R 5 (Xa.alloc (.cells #[.slice A6 ds.length c6, .int .i64 sy] 37)) _ _ _ _ := Kd.R_below hR6 (by repeat (first | exact Below.refl _ _ | apply below_alloc | apply pw_below_drewN | apply below_drew1 | (refine Below.setCell ?_ (by first | (simp; done) | (simp; omega) | omega) _) ))
      refine wpAnyH_ready (rs := [8]) (by kernel_rfl) (by simp) ?_
      refine AllReadyH.cons (o := { dst := none, op := _, type := _, pos := _, after := _, guard := _ }) rfl (fun K hK => ?_) AllReadyH.nil
      go_simp
      refine hK.out _ _ ⟨⟨h5x.at 0 _ rfl, h5x.at 1 _ rfl⟩, h3x.at 0 _ rfl, h3x.at 1 _ rfl⟩ (fun hHeld => ?_)
      clear hK K
      refine wpAnyH_take (i := 9) (oi := { dst := some 7, op := _, type := _, pos := _, after := _, guard := _ }) (v := .int .i64 n) rfl (by kernel_rfl) (by kernel_rfl) (by kernel_rfl) (fun _ _ _ h => h) (Or.inl ⟨by rfl, by (intro w hSw; (try dsimp only at hSw); first | (go_simp; done) | (go_simp; with_reducible rfl) | (go_simp; omega) | (go_simp; simp [*]; done))⟩) (by assumption) ?_; try simp only [Act.put, List.setIfInBounds_toArray, List.set_cons_zero, List.set_cons_succ]
      refine wpAnyH_done (by kernel_rfl) ?_ _
      generalize hY : Xa.alloc (.cells #[.slice A6 ds.length c6, .int .i64 sy] 37) = Y at *
      clear hY
      have g20 := h2x.at 0 _ rfl
      have g21 := h2x.at 1 _ rfl
      have g30 := h3x.at 0 _ rfl
      have g31 := h3x.at 1 _ rfl
      go_wp2_with fail
      refine (HT.out _ (Kd.C_below hr hBx) (Kd.C_below hr2 hBx)).mono ?_
      intro e Z hw
      obtain ⟨v8, rfl, hR8, hb8⟩ := hw
      simp only at hR8 ⊢
      obtain ⟨A8, c8, rfl⟩ := Kd.R_slice hR8
      have hC8 := C_ofR hR8
      have hzy := hb8.size
      have hzp := hP10.lt
      have hz5 := h5x.lt
      have hBz := hBx.trans (hb8.mono hBx.size)
      have hPz := hP10.below hb8 hzp
      have h5z := h5x.below hb8 hz5
      have h2z := h2x.below hb8 h2x.lt
      have hC6z := Kd.C_below (C_ofR hR6x) hb8
      have hC1z := Kd.C_below (C_ofR hR1x) hb8
      have e0 := hPz.at 0 _ rfl
      have e1 := hPz.at 1 _ rfl
      have f0 := h5z.at 0 _ rfl
      have f1 := h5z.at 1 _ rfl
      have g0 := h2z.at 0 _ rfl
      have g1 := h2z.at 1 _ rfl
      have hzzp : Xa.heap.size < Z.heap.size := by omega
      have hzz5 : w1.heap.size < Z.heap.size := by omega
      have hzz2 : w.heap.size < Z.heap.size := by have := h2z.lt; omega
      have hS1 := Lib.hid (fun w' (h : Below Z.heap.size Z w') => sameTape_calls A6 c6 A8 c8 ds sy w' (Kd.C_below hC6z h) (Kd.C_below hC8 h))
      have hS2 := Lib.hid (fun w' (h : Below Z.heap.size Z w') => sameTape_calls A1 c1 A c l s w' (Kd.C_below hC1z h) (Kd.C_below (Kd.C_below hr hBz) h))
      go_wp2_with fail
      refine (hS1.out _ (by repeat (first | exact Below.refl _ _ | apply below_alloc | apply pw_below_drewN | apply below_drew1 | (refine Below.setCell ?_ (by first | (simp; done) | (simp; omega) | omega) _) ))).mono ?_
      rintro e Z2 ⟨rfl, hb9⟩
      have hb9' : Below Z.heap.size Z Z2 := (by repeat (first | exact Below.refl _ _ | apply below_alloc | apply pw_below_drewN | apply below_drew1 | (refine Below.setCell ?_ (by first | (simp; done) | (simp; omega) | omega) _) | (refine below_then ?_ (by first | (simp; done) | (simp; omega) | omega) hb9)))
      have f0 := (hb9'.cell (p := ⟨w1.heap.size, 0, none⟩) hzz5).trans f0
      have f1 := (hb9'.cell (p := ⟨w1.heap.size, 1, none⟩) hzz5).trans f1
      have g0 := (hb9'.cell (p := ⟨w.heap.size, 0, none⟩) hzz2).trans g0
      have g1 := (hb9'.cell (p := ⟨w.heap.size, 1, none⟩) hzz2).trans g1
      go_wp2_with fail
      refine (hS2.out _ hb9').mono ?_
      rintro e Z3 ⟨rfl, hb10⟩
      go_wp2_with fail
      go_ret
      exact ⟨(by first | rfl | (simp; done) | (simp [*]; done) | (rw [if_pos (by omega)]; first | rfl | (simp; done)) | (rw [if_neg (by omega)]; first | rfl | (simp; done)) | (simp; omega)), hBz.trans ((hb9'.trans (hb10.mono hb9'.size)).mono hBz.size)⟩
    · go_simp
      have hP0 := BlkT.made Xb #[.slice none 0 0, .int .i64 0] 37
      have h5p := h5b.alloc (.cells #[.slice none 0 0, .int .i64 0] 37)
      have h3p := h3b.alloc (.cells #[.slice none 0 0, .int .i64 0] 37)
      have h2p := h2b.alloc (.cells #[.slice none 0 0, .int .i64 0] 37)
      have hBp : Below w.heap.size w (Xb.alloc (.cells #[.slice none 0 0, .int .i64 0] 37)) := (by repeat (first | exact Below.refl _ _ | apply below_alloc | apply pw_below_drewN | apply below_drew1 | (refine Below.setCell ?_ (by first | (simp; done) | (simp; omega) | omega) _) | exact hBb))
      have hCp : Kd.C kAEntry (Xb.alloc (.cells #[.slice none 0 0, .int .i64 0] 37)) _ _ _ := Kd.C_below hCb (by repeat (first | exact Below.refl _ _ | apply below_alloc | apply pw_below_drewN | apply below_drew1 | (refine Below.setCell ?_ (by first | (simp; done) | (simp; omega) | omega) _) ))
      have hR1p : (Kd.int .u8).R 5 (Xb.alloc (.cells #[.slice none 0 0, .int .i64 0] 37)) _ _ _ _ := Kd.R_below hR1b (by repeat (first | exact Below.refl _ _ | apply below_alloc | apply pw_below_drewN | apply below_drew1 | (refine Below.setCell ?_ (by first | (simp; done) | (simp; omega) | omega) _) ))
      have hzp : (Xb.alloc (.cells #[.slice none 0 0, .int .i64 0] 37)).heap.size = Xb.heap.size + 1 := by simp
      refine hK.out _ _ ⟨⟨(h5p).1.at 0 _ rfl, (h5p).1.at 1 _ rfl⟩, (h3p).1.at 0 _ rfl, (h3p).1.at 1 _ rfl⟩ (fun hHeld => ?_)
      clear hK K
      refine wpAnyH_ready (rs := [3]) (by kernel_rfl) (by simp) ?_
      refine AllReadyH.cons (o := { dst := some 16, op := _, type := _, pos := _, after := _, guard := _ }) rfl (fun K hK => ?_) AllReadyH.nil
      go_simp
      go_at_call 21
      refine (HA.out _ _ _ _ _ (C_ofR hR1p) hCp (cell_below hBp hm hg) (by omega)).mono ?_
      intro e Xa hw
      obtain ⟨v6, rfl, hR6, hba⟩ := hw
      simp only at hR6 ⊢
      obtain ⟨A6, c6, rfl⟩ := Kd.R_slice hR6
      have hzx := hba.size
      have hBa := (hBp).trans (hba.mono (by omega))
      have h5a := (h5p).below hba (by omega)
      have h3a := (h3p).below hba (by omega)
      have h2a := (h2p).below hba (by omega)
      have hR1a := Kd.R_below hR1p hba
      go_wp2_with fail
      refine hK.out _ _ ⟨⟨(h5a).1.at 0 _ rfl, (h5a).1.at 1 _ rfl⟩, (h3a).1.at 0 _ rfl, (h3a).1.at 1 _ rfl⟩ (fun hHeld => ?_)
      clear hK K
      have hP1 := hP0.below hba (by omega)
      refine wpAnyH_take (i := 4) (oi := { dst := some 12, op := _, type := _, pos := _, after := _, guard := _ }) (v := .tuple #[.agg #[.slice A6 ds.length c6, .int .i64 sy], .int .i64 n]) rfl (by kernel_rfl) (by kernel_rfl) (by kernel_rfl) (fun _ _ _ h => h) (Or.inl ⟨by rfl, by (intro w hSw; (try dsimp only at hSw); first | (go_simp; done) | (go_simp; with_reducible rfl) | (go_simp; omega) | (go_simp; simp [*]; done))⟩) (by assumption) ?_; try simp only [Act.put, List.setIfInBounds_toArray, List.set_cons_zero, List.set_cons_succ]
      refine wpAnyH_take (i := 5) (oi := { dst := some 17, op := _, type := _, pos := _, after := _, guard := _ }) (v := .agg #[.slice A6 ds.length c6, .int .i64 sy]) rfl (by kernel_rfl) (by kernel_rfl) (by kernel_rfl) (fun _ _ _ h => h) (Or.inl ⟨by rfl, by (intro w hSw; (try dsimp only at hSw); first | (go_simp; done) | (go_simp; with_reducible rfl) | (go_simp; omega) | (go_simp; simp [*]; done))⟩) (by assumption) ?_; try simp only [Act.put, List.setIfInBounds_toArray, List.set_cons_zero, List.set_cons_succ]
      refine wpAnyH_take (i := 6) (oi := { dst := some 18, op := _, type := _, pos := _, after := _, guard := _ }) (v := .int .i64 n) rfl (by kernel_rfl) (by kernel_rfl) (by kernel_rfl) (fun _ _ _ h => h) (Or.inl ⟨by rfl, by (intro w hSw; (try dsimp only at hSw); first | (go_simp; done) | (go_simp; with_reducible rfl) | (go_simp; omega) | (go_simp; simp [*]; done))⟩) (by assumption) ?_; try simp only [Act.put, List.setIfInBounds_toArray, List.set_cons_zero, List.set_cons_succ]
      have n5 : ¬ Xb.heap.size = w1.heap.size := by omega
      have n3 : ¬ Xb.heap.size = w.heap.size + 1 := by omega
      have n2 : ¬ Xb.heap.size = w.heap.size := by omega
      have zz0 := (hP1).1.at 0 _ rfl
      have zz1 := (hP1).1.at 1 _ rfl
      have yy0 := (hP1).1.free 0 _ rfl
      have yy1 := (hP1).1.free 1 _ rfl
      have hP10 := ((hP1).1.set 0 (.slice A6 ds.length c6) (by simp)).set 1 (.int .i64 sy) (by simp)
      have h5x := ((h5a).1.other (j := 0) n5 (.slice A6 ds.length c6)).other (j := 1) n5 (.int .i64 sy)
      have h3x := ((h3a).1.other (j := 0) n3 (.slice A6 ds.length c6)).other (j := 1) n3 (.int .i64 sy)
      have h2x := ((h2a).1.other (j := 0) n2 (.slice A6 ds.length c6)).other (j := 1) n2 (.int .i64 sy)
      have hR1x := R_set2 (i := 0) (j := 1) hR1a hP1 (by decide) (.slice A6 ds.length c6) (.int .i64 sy)
      have hR6x := R_set2 (i := 0) (j := 1) hR6 hP1 (by decide) (.slice A6 ds.length c6) (.int .i64 sy)
      have hBx := Below.setCell (p := ⟨Xb.heap.size, 1, none⟩) (Below.setCell (p := ⟨Xb.heap.size, 0, none⟩) hBa (show w.heap.size ≤ Xb.heap.size by omega) (.slice A6 ds.length c6)) (show w.heap.size ≤ Xb.heap.size by omega) (.int .i64 sy)
      refine wpAnyH_ready (rs := [8]) (by kernel_rfl) (by simp) ?_
      refine AllReadyH.cons (o := { dst := none, op := _, type := _, pos := _, after := _, guard := _ }) rfl (fun K hK => ?_) AllReadyH.nil
      go_simp
      refine hK.out _ _ ⟨⟨h5x.at 0 _ rfl, h5x.at 1 _ rfl⟩, h3x.at 0 _ rfl, h3x.at 1 _ rfl⟩ (fun hHeld => ?_)
      clear hK K
      refine wpAnyH_take (i := 9) (oi := { dst := some 7, op := _, type := _, pos := _, after := _, guard := _ }) (v := .int .i64 n) rfl (by kernel_rfl) (by kernel_rfl) (by kernel_rfl) (fun _ _ _ h => h) (Or.inl ⟨by rfl, by (intro w hSw; (try dsimp only at hSw); first | (go_simp; done) | (go_simp; with_reducible rfl) | (go_simp; omega) | (go_simp; simp [*]; done))⟩) (by assumption) ?_; try simp only [Act.put, List.setIfInBounds_toArray, List.set_cons_zero, List.set_cons_succ]
      refine wpAnyH_done (by kernel_rfl) ?_ _
      generalize hY : ((Xa).setCell ⟨Xb.heap.size, 0, none⟩ (.slice A6 ds.length c6)).setCell ⟨Xb.heap.size, 1, none⟩ (.int .i64 sy) = Y at *
      clear hY zz0 zz1 yy0 yy1
      have g20 := h2x.at 0 _ rfl
      have g21 := h2x.at 1 _ rfl
      have g30 := h3x.at 0 _ rfl
      have g31 := h3x.at 1 _ rfl
      go_wp2_with fail
      refine (HT.out _ (Kd.C_below hr hBx) (Kd.C_below hr2 hBx)).mono ?_
      intro e Z hw
      obtain ⟨v8, rfl, hR8, hb8⟩ := hw
      simp only at hR8 ⊢
      obtain ⟨A8, c8, rfl⟩ := Kd.R_slice hR8
      have hC8 := C_ofR hR8
      have hzy := hb8.size
      have hzp := hP10.lt
      have hz5 := h5x.lt
      have hBz := hBx.trans (hb8.mono hBx.size)
      have hPz := hP10.below hb8 hzp
      have h5z := h5x.below hb8 hz5
      have h2z := h2x.below hb8 h2x.lt
      have hC6z := Kd.C_below (C_ofR hR6x) hb8
      have hC1z := Kd.C_below (C_ofR hR1x) hb8
      have e0 := hPz.at 0 _ rfl
      have e1 := hPz.at 1 _ rfl
      have f0 := h5z.at 0 _ rfl
      have f1 := h5z.at 1 _ rfl
      have g0 := h2z.at 0 _ rfl
      have g1 := h2z.at 1 _ rfl
      have hzzp : Xb.heap.size < Z.heap.size := by omega
      have hzz5 : w1.heap.size < Z.heap.size := by omega
      have hzz2 : w.heap.size < Z.heap.size := by have := h2z.lt; omega
      have hS1 := Lib.hid (fun w' (h : Below Z.heap.size Z w') => sameTape_calls A6 c6 A8 c8 ds sy w' (Kd.C_below hC6z h) (Kd.C_below hC8 h))
      have hS2 := Lib.hid (fun w' (h : Below Z.heap.size Z w') => sameTape_calls A1 c1 A c l s w' (Kd.C_below hC1z h) (Kd.C_below (Kd.C_below hr hBz) h))
      go_wp2_with fail
      refine (hS1.out _ (by repeat (first | exact Below.refl _ _ | apply below_alloc | apply pw_below_drewN | apply below_drew1 | (refine Below.setCell ?_ (by first | (simp; done) | (simp; omega) | omega) _) ))).mono ?_
      rintro e Z2 ⟨rfl, hb9⟩
      have hb9' : Below Z.heap.size Z Z2 := (by repeat (first | exact Below.refl _ _ | apply below_alloc | apply pw_below_drewN | apply below_drew1 | (refine Below.setCell ?_ (by first | (simp; done) | (simp; omega) | omega) _) | (refine below_then ?_ (by first | (simp; done) | (simp; omega) | omega) hb9)))
      have f0 := (hb9'.cell (p := ⟨w1.heap.size, 0, none⟩) hzz5).trans f0
      have f1 := (hb9'.cell (p := ⟨w1.heap.size, 1, none⟩) hzz5).trans f1
      have g0 := (hb9'.cell (p := ⟨w.heap.size, 0, none⟩) hzz2).trans g0
      have g1 := (hb9'.cell (p := ⟨w.heap.size, 1, none⟩) hzz2).trans g1
      go_wp2_with fail
      refine (hS2.out _ hb9').mono ?_
      rintro e Z3 ⟨rfl, hb10⟩
      go_wp2_with fail
      go_ret
      exact ⟨(by first | rfl | (simp; done) | (simp [*]; done) | (rw [if_pos (by omega)]; first | rfl | (simp; done)) | (rw [if_neg (by omega)]; first | rfl | (simp; done)) | (simp; omega)), hBz.trans ((hb9'.trans (hb10.mono hb9'.size)).mono hBz.size)⟩
  · go_simp
    have hd2 : Below (w1.heap.size + 2) (Wa.alloc (.cells #[.slice none 0 0, .int .i64 0] 37)) (Wa.alloc (.cells #[.slice none 0 0, .int .i64 0] 37)).drew := (by repeat (first | exact Below.refl _ _ | apply below_alloc | apply pw_below_drewN | apply below_drew1 | (refine Below.setCell ?_ (by first | (simp; done) | (simp; omega) | omega) _) ))
    have hP0 := (BlkT.made_at (w := Wa) #[.slice none 0 0, .int .i64 0] 37 (w1.heap.size + 1) hza).below hd2 (by omega)
    have h5p := (h5.alloc (.cells #[.slice none 0 0, .int .i64 0] 37)).below hd2 (by omega)
    have h3p := (h3.alloc (.cells #[.slice none 0 0, .int .i64 0] 37)).below hd2 (by omega)
    have h2p := (h2.alloc (.cells #[.slice none 0 0, .int .i64 0] 37)).below hd2 (by omega)
    have hBp : Below w.heap.size w (Wa.alloc (.cells #[.slice none 0 0, .int .i64 0] 37)).drew := (by repeat (first | exact Below.refl _ _ | apply below_alloc | apply pw_below_drewN | apply below_drew1 | (refine Below.setCell ?_ (by first | (simp; done) | (simp; omega) | omega) _) | exact hB1))
    have hR1p : (Kd.int .u8).R 5 (Wa.alloc (.cells #[.slice none 0 0, .int .i64 0] 37)).drew _ _ _ _ := Kd.R_below hR1' (by repeat (first | exact Below.refl _ _ | apply below_alloc | apply pw_below_drewN | apply below_drew1 | (refine Below.setCell ?_ (by first | (simp; done) | (simp; omega) | omega) _) ))
    have hzp : (Wa.alloc (.cells #[.slice none 0 0, .int .i64 0] 37)).drew.heap.size = w1.heap.size + 2 := by simp; omega
    generalize (Wa.alloc (.cells #[.slice none 0 0, .int .i64 0] 37)).drew = Wp at *
    refine hK.out _ _ ⟨⟨(h5p).1.at 0 _ rfl, (h5p).1.at 1 _ rfl⟩, (h3p).1.at 0 _ rfl, (h3p).1.at 1 _ rfl⟩ (fun hHeld => ?_)
    clear hK K
    refine wpAnyH_ready (rs := [2]) (by kernel_rfl) (by simp) ?_
    refine AllReadyH.cons (o := { dst := some 15, op := _, type := _, pos := _, after := _, guard := _ }) rfl (fun K hK => ?_) AllReadyH.nil
    go_simp
    go_at_call 13
    refine (HB.out _ (Kd.C_below hr2 hBp)).mono ?_
    rintro e Xb ⟨Ab, cb, rfl, hRb, hbb⟩
    have hCb := C_ofR hRb
    have hzb := hbb.size
    have hBb := (hBp).trans (hbb.mono (by omega))
    have h5b := (h5p).below hbb (by omega)
    have h3b := (h3p).below hbb (by omega)
    have h2b := (h2p).below hbb (by omega)
    have hR1b := Kd.R_below hR1p hbb
    go_wp2_with fail
    refine hK.out _ _ ⟨⟨(h5b).1.at 0 _ rfl, (h5b).1.at 1 _ rfl⟩, (h3b).1.at 0 _ rfl, (h3b).1.at 1 _ rfl⟩ (fun hHeld => ?_)
    clear hK K
    have hPb := hP0.below hbb (by omega)
    refine wpAnyH_ready (rs := [3]) (by kernel_rfl) (by simp) ?_
    refine AllReadyH.cons (o := { dst := some 16, op := _, type := _, pos := _, after := _, guard := _ }) rfl (fun K hK => ?_) AllReadyH.nil
    go_simp
    go_at_call 21
    refine (HA.out _ _ _ _ _ (C_ofR hR1b) hCb (cell_below hBb hm hg) (by omega)).mono ?_
    intro e Xa hw
    obtain ⟨v6, rfl, hR6, hba⟩ := hw
    simp only at hR6 ⊢
    obtain ⟨A6, c6, rfl⟩ := Kd.R_slice hR6
    have hzx := hba.size
    have hBa := (hBb).trans (hba.mono (by omega))
    have h5a := (h5b).below hba (by omega)
    have h3a := (h3b).below hba (by omega)
    have h2a := (h2b).below hba (by omega)
    have hR1a := Kd.R_below hR1b hba
    go_wp2_with fail
    refine hK.out _ _ ⟨⟨(h5a).1.at 0 _ rfl, (h5a).1.at 1 _ rfl⟩, (h3a).1.at 0 _ rfl, (h3a).1.at 1 _ rfl⟩ (fun hHeld => ?_)
    clear hK K
    have hP1 := hPb.below hba (by omega)
    refine wpAnyH_take (i := 4) (oi := { dst := some 12, op := _, type := _, pos := _, after := _, guard := _ }) (v := .tuple #[.agg #[.slice A6 ds.length c6, .int .i64 sy], .int .i64 n]) rfl (by kernel_rfl) (by kernel_rfl) (by kernel_rfl) (fun _ _ _ h => h) (Or.inl ⟨by rfl, by (intro w hSw; (try dsimp only at hSw); first | (go_simp; done) | (go_simp; with_reducible rfl) | (go_simp; omega) | (go_simp; simp [*]; done))⟩) (by assumption) ?_; try simp only [Act.put, List.setIfInBounds_toArray, List.set_cons_zero, List.set_cons_succ]
    refine wpAnyH_take (i := 5) (oi := { dst := some 17, op := _, type := _, pos := _, after := _, guard := _ }) (v := .agg #[.slice A6 ds.length c6, .int .i64 sy]) rfl (by kernel_rfl) (by kernel_rfl) (by kernel_rfl) (fun _ _ _ h => h) (Or.inl ⟨by rfl, by (intro w hSw; (try dsimp only at hSw); first | (go_simp; done) | (go_simp; with_reducible rfl) | (go_simp; omega) | (go_simp; simp [*]; done))⟩) (by assumption) ?_; try simp only [Act.put, List.setIfInBounds_toArray, List.set_cons_zero, List.set_cons_succ]
    refine wpAnyH_take (i := 6) (oi := { dst := some 18, op := _, type := _, pos := _, after := _, guard := _ }) (v := .int .i64 n) rfl (by kernel_rfl) (by kernel_rfl) (by kernel_rfl) (fun _ _ _ h => h) (Or.inl ⟨by rfl, by (intro w hSw; (try dsimp only at hSw); first | (go_simp; done) | (go_simp; with_reducible rfl) | (go_simp; omega) | (go_simp; simp [*]; done))⟩) (by assumption) ?_; try simp only [Act.put, List.setIfInBounds_toArray, List.set_cons_zero, List.set_cons_succ]
    have n5 : ¬ w1.heap.size + 1 = w1.heap.size := by omega
    have n3 : ¬ w1.heap.size + 1 = w.heap.size + 1 := by omega
    have n2 : ¬ w1.heap.size + 1 = w.heap.size := by omega
    have zz0 := (hP1).1.at 0 _ rfl
    have zz1 := (hP1).1.at 1 _ rfl
    have yy0 := (hP1).1.free 0 _ rfl
    have yy1 := (hP1).1.free 1 _ rfl
    have hP10 := ((hP1).1.set 0 (.slice A6 ds.length c6) (by simp)).set 1 (.int .i64 sy) (by simp)
    have h5x := ((h5a).1.other (j := 0) n5 (.slice A6 ds.length c6)).other (j := 1) n5 (.int .i64 sy)
    have h3x := ((h3a).1.other (j := 0) n3 (.slice A6 ds.length c6)).other (j := 1) n3 (.int .i64 sy)
    have h2x := ((h2a).1.other (j := 0) n2 (.slice A6 ds.length c6)).other (j := 1) n2 (.int .i64 sy)
    have hR1x := R_set2 (i := 0) (j := 1) hR1a hP1 (by decide) (.slice A6 ds.length c6) (.int .i64 sy)
    have hR6x := R_set2 (i := 0) (j := 1) hR6 hP1 (by decide) (.slice A6 ds.length c6) (.int .i64 sy)
    have hBx := Below.setCell (p := ⟨w1.heap.size + 1, 1, none⟩) (Below.setCell (p := ⟨w1.heap.size + 1, 0, none⟩) hBa (show w.heap.size ≤ w1.heap.size + 1 by omega) (.slice A6 ds.length c6)) (show w.heap.size ≤ w1.heap.size + 1 by omega) (.int .i64 sy)
    refine wpAnyH_ready (rs := [8]) (by kernel_rfl) (by simp) ?_
    refine AllReadyH.cons (o := { dst := none, op := _, type := _, pos := _, after := _, guard := _ }) rfl (fun K hK => ?_) AllReadyH.nil
    go_simp
    refine hK.out _ _ ⟨⟨h5x.at 0 _ rfl, h5x.at 1 _ rfl⟩, h3x.at 0 _ rfl, h3x.at 1 _ rfl⟩ (fun hHeld => ?_)
    clear hK K
    refine wpAnyH_take (i := 9) (oi := { dst := some 7, op := _, type := _, pos := _, after := _, guard := _ }) (v := .int .i64 n) rfl (by kernel_rfl) (by kernel_rfl) (by kernel_rfl) (fun _ _ _ h => h) (Or.inl ⟨by rfl, by (intro w hSw; (try dsimp only at hSw); first | (go_simp; done) | (go_simp; with_reducible rfl) | (go_simp; omega) | (go_simp; simp [*]; done))⟩) (by assumption) ?_; try simp only [Act.put, List.setIfInBounds_toArray, List.set_cons_zero, List.set_cons_succ]
    refine wpAnyH_done (by kernel_rfl) ?_ _
    generalize hY : ((Xa).setCell ⟨w1.heap.size + 1, 0, none⟩ (.slice A6 ds.length c6)).setCell ⟨w1.heap.size + 1, 1, none⟩ (.int .i64 sy) = Y at *
    clear hY zz0 zz1 yy0 yy1
    have g20 := h2x.at 0 _ rfl
    have g21 := h2x.at 1 _ rfl
    have g30 := h3x.at 0 _ rfl
    have g31 := h3x.at 1 _ rfl
    go_wp2_with fail
    refine (HT.out _ (Kd.C_below hr hBx) (Kd.C_below hr2 hBx)).mono ?_
    intro e Z hw
    obtain ⟨v8, rfl, hR8, hb8⟩ := hw
    simp only at hR8 ⊢
    obtain ⟨A8, c8, rfl⟩ := Kd.R_slice hR8
    have hC8 := C_ofR hR8
    have hzy := hb8.size
    have hzp := hP10.lt
    have hz5 := h5x.lt
    have hBz := hBx.trans (hb8.mono hBx.size)
    have hPz := hP10.below hb8 hzp
    have h5z := h5x.below hb8 hz5
    have h2z := h2x.below hb8 h2x.lt
    have hC6z := Kd.C_below (C_ofR hR6x) hb8
    have hC1z := Kd.C_below (C_ofR hR1x) hb8
    have e0 := hPz.at 0 _ rfl
    have e1 := hPz.at 1 _ rfl
    have f0 := h5z.at 0 _ rfl
    have f1 := h5z.at 1 _ rfl
    have g0 := h2z.at 0 _ rfl
    have g1 := h2z.at 1 _ rfl
    have hzzp : w1.heap.size + 1 < Z.heap.size := by omega
    have hzz5 : w1.heap.size < Z.heap.size := by omega
    have hzz2 : w.heap.size < Z.heap.size := by have := h2z.lt; omega
    have hS1 := Lib.hid (fun w' (h : Below Z.heap.size Z w') => sameTape_calls A6 c6 A8 c8 ds sy w' (Kd.C_below hC6z h) (Kd.C_below hC8 h))
    have hS2 := Lib.hid (fun w' (h : Below Z.heap.size Z w') => sameTape_calls A1 c1 A c l s w' (Kd.C_below hC1z h) (Kd.C_below (Kd.C_below hr hBz) h))
    go_wp2_with fail
    refine (hS1.out _ (by repeat (first | exact Below.refl _ _ | apply below_alloc | apply pw_below_drewN | apply below_drew1 | (refine Below.setCell ?_ (by first | (simp; done) | (simp; omega) | omega) _) ))).mono ?_
    rintro e Z2 ⟨rfl, hb9⟩
    have hb9' : Below Z.heap.size Z Z2 := (by repeat (first | exact Below.refl _ _ | apply below_alloc | apply pw_below_drewN | apply below_drew1 | (refine Below.setCell ?_ (by first | (simp; done) | (simp; omega) | omega) _) | (refine below_then ?_ (by first | (simp; done) | (simp; omega) | omega) hb9)))
    have f0 := (hb9'.cell (p := ⟨w1.heap.size, 0, none⟩) hzz5).trans f0
    have f1 := (hb9'.cell (p := ⟨w1.heap.size, 1, none⟩) hzz5).trans f1
    have g0 := (hb9'.cell (p := ⟨w.heap.size, 0, none⟩) hzz2).trans g0
    have g1 := (hb9'.cell (p := ⟨w.heap.size, 1, none⟩) hzz2).trans g1
    go_wp2_with fail
    refine (hS2.out _ hb9').mono ?_
    rintro e Z3 ⟨rfl, hb10⟩
    go_wp2_with fail
    go_ret
    exact ⟨(by first | rfl | (simp; done) | (simp [*]; done) | (rw [if_pos (by omega)]; first | rfl | (simp; done)) | (rw [if_neg (by omega)]; first | rfl | (simp; done)) | (simp; omega)), hBz.trans ((hb9'.trans (hb10.mono hb9'.size)).mono hBz.size)⟩
end Go.Proofs.YtdffojjimoilgaaDoor.H
namespace Go.Proofs.YtdffojjimoilgaaDoor.bookAppends
open Go.ChangeShapes Go.WideShapes Go.ChangeAt Go.RowKit Go.Proofs.YtdffojjimoilgaaDoorW.PrintWords Go.Proofs.YtdffojjimoilgaaDoor.U Go.Proofs.YtdffojjimoilgaaDoor.UB Go.Proofs.YtdffojjimoilgaaDoor.H
open Go.ChangeMaps (open_string shut_string)
set_option linter.unusedVariables false
set_option maxRecDepth 100000
theorem own : ownKnob Tryd.prog.godebug = none := by kernel_rfl
theorem laidOut : laidOutB Tryd.prog = true := by kernel_rfl
def okAEntry (x : AEntry) : Prop := (Lit.int .i64 x.kind).wf = true ∧ x.box.size ≤ bulkTop ∧ (Lit.int .i64 x.uid).wf = true ∧ (Lit.int .i64 x.flags).wf = true ∧ x.to_.size ≤ bulkTop ∧ x.text.size ≤ bulkTop
theorem opens_AEntry {n : Nat} : OpensN Tryd.prog n 60 kAEntry okAEntry := by
  intro H enc W base spare held cs x h hm
  obtain ⟨⟨a0, a1, a2, a3, a4, a5⟩, hk, ⟨h0_, h1_, h2_, h3_, h4_, h5_⟩⟩ := (opens_struct Tryd.underlying60 (len := 6) (by kernel_rfl) (fun _ _ => (opensF_cons rfl (by kernel_rfl) (opens_int Tryd.underlying3) (opensF_cons rfl (by kernel_rfl) (opens_string Tryd.underlying9) (opensF_cons rfl (by kernel_rfl) (opens_int Tryd.underlying3) (opensF_cons rfl (by kernel_rfl) (opens_int Tryd.underlying3) (opensF_cons rfl (by kernel_rfl) (opens_string Tryd.underlying9) (opensF_one rfl (by kernel_rfl) (opens_string Tryd.underlying9))))))))) enc W base spare held cs x h hm
  obtain ⟨_, _, rfl, rfl, ⟨_, _, rfl, rfl, ⟨_, _, rfl, rfl, ⟨_, _, rfl, rfl, ⟨_, _, rfl, rfl, rfl⟩⟩⟩⟩⟩ := hk
  exact ⟨⟨a0, a1, a2, a3, a4, a5⟩, rfl, h0_, h1_, h2_, h3_, h4_, h5_⟩
def kBatch : Kd (Int × List AEntry) := Kd.pair (Kd.int .i64) (Kd.slice 60 kAEntry)
theorem opensB : Opens Tryd.prog 24 kBatch (fun y => (Lit.int .i64 y.1).wf = true ∧ (y.2.length ≤ bulkTop ∧ ∀ b ∈ y.2, okAEntry b)) := fun n =>
  opens_struct Tryd.underlying24 (len := 2) (by kernel_rfl) (fun m _ => opensF_cons rfl (by kernel_rfl) (opens_int Tryd.underlying3)
    (opensF_one rfl (by kernel_rfl) (opens_slice Tryd.underlying22 (by kernel_rfl) (fun _ _ => opens_AEntry))))
def kTape : Kd (List Int × Int) := Kd.pair (Kd.slice 5 (Kd.int .u8)) (Kd.int .i64)
theorem opensT : Opens Tryd.prog 37 kTape (fun y => (y.1.length ≤ bulkTop ∧ ∀ b ∈ y.1, (Lit.int .u8 b).wf = true) ∧ (Lit.int .i64 y.2).wf = true) := fun n =>
  opens_struct Tryd.underlying37 (len := 2) (by kernel_rfl) (fun m _ => opensF_cons rfl (by kernel_rfl) (opens_slice Tryd.underlying29 (by kernel_rfl) (fun _ _ => opens_int Tryd.underlying5)) (opensF_one rfl (by kernel_rfl) (opens_int Tryd.underlying3)))
set_option maxRecDepth 100000 in
theorem lifted (os : Os) (started : os.Started) (H : Type) (enc : TypeId × Value → H) (F : Stop.Interp) :
    ReturnsInHanded {} Tryd.checked os 6 .any ((Rows.OpenSpec.upto Rows.bookAppendsSpec).preRow enc Tryd.prog Tryd.f6 Rows.bookAppendsUptoRow.domain false Rows.bookAppendsUptoRow.laid) (((Rows.OpenSpec.upto Rows.bookAppendsSpec).at F).post enc Tryd.prog Tryd.f6 false true false false) := by
  refine returnsInHanded_of_row (C := Tryd.checked) (s := Rows.OpenSpec.upto Rows.bookAppendsSpec) own started (by kernel_rfl) Tryd.func6
    (witness_up (enc := enc) (C := Tryd.checked) (s := Rows.OpenSpec.upto Rows.bookAppendsSpec) (laid := Rows.bookAppendsUptoRow.laid) os #[.agg #[.slice none 0 0, .int .i64 0], .agg #[.int .i64 0, .slice none 0 0]] 8 (World.shaped_of_ZipB (by kernel_rfl) (by kernel_rfl)) (by kernel_rfl) ([.agg [.nil, .lit (.int .i64 0)], .agg [.lit (.int .i64 0), .nil]], [], []) (by kernel_rfl) (by kernel_rfl)
      (fun k hk => by cases hk; kernel_rfl) (by kernel_rfl)
      (by rw [MakeChecks.laidMetH_plain _ _ _ (by kernel_rfl)]; exact laidMet_laidAll _ (by kernel_rfl) (by kernel_rfl))) ?_
  intro W base args ds gs before hval0 hW hcnd hcond hsz hL hsh _
  have hk : Rows.uptoSmall H (ds ++ gs) = true := hcond _ rfl
  have hval : ∀ (j : Nat) t v, Tryd.f6.params[j]? = some t → args[j]? = some v → Value.okWide Tryd.prog W .any base t v := hval0
  have hW' := hW
  obtain ⟨p, q, hA0, hV, rfl, hfz, hnd⟩ := hW
  have hA : DataW.TrodAll enc Tryd.prog W 0 (fun _ => true) true Tryd.f6.params.toList args.toList ds p := hA0
  rw [Tryd.params6] at hA hval
  rw [MakeChecks.laidMetH_plain _ _ _ (by kernel_rfl)] at hL
  obtain ⟨ps, hL, hLn, hLc⟩ := hL
  obtain ⟨v0, vs0, d0, ds0, p0, q0, hargs, rfl, rfl, h0, r0⟩ := trodAll_cons hA
  obtain ⟨v1, vs1, d1, ds1, p1, q1, rfl, rfl, rfl, h1, r1⟩ := trodAll_cons r0
  obtain ⟨rfl, rfl, rfl⟩ := trodAll_nil r1
  obtain rfl : args = #[v0, v1] := by cases args; simp_all
  obtain ⟨rfl, rfl⟩ := trodVars_none hV
  have lt0 : ∀ x ∈ p0, x.block < W.heap.size := by obtain ⟨m, hm⟩ := h0; exact DataW.trod_lt m _ _ _ hm
  have lt1 : ∀ x ∈ p1, x.block < W.heap.size := by obtain ⟨m, hm⟩ := h1; exact DataW.trod_lt m _ _ _ hm
  obtain ⟨⟨lt, s⟩, ct, rfl, ⟨c0, c1, hct, ⟨A, c, rfl, hlt, hrt⟩, rfl⟩, ⟨hlent, _⟩, hsw⟩ := arg_struct Tryd.underlying37 (hval 0 _ v0 rfl rfl) h0 (bulk_arg hk (j := 0) rfl) opensT
  obtain rfl : ct = #[.slice A lt.length c, .int .i64 s] := by cases ct; simpa using hct
  obtain ⟨⟨u, l⟩, cs, rfl, ⟨cu, _, hcs, hu, ⟨A2, c2, rfl, hl, hr⟩⟩, ⟨hwf, hlen, hall⟩⟩ := arg_struct Tryd.underlying24 (hval 1 _ v1 rfl rfl) h1 (bulk_arg hk (j := 1) rfl) opensB
  obtain rfl : cu = [.int .i64 u] := hu
  obtain rfl : cs = #[.int .i64 u, .slice A2 l.length c2] := by cases cs; simpa using hcs
  obtain ⟨m, hm⟩ := cell_of_shapedOpen_int (g := 0) (zero := #[.int .i64 0]) hsh (of_decide_eq_true (by kernel_rfl)) (by kernel_rfl) (by kernel_rfl) (by kernel_rfl) (by kernel_rfl) Tryd.underlying3
  refine (bookAppends_walk A c lt s u A2 c2 l m W hrt hlent hr hlen (fun x hx => ⟨(hall x hx).2.1, (hall x hx).2.2.2.2.1, (hall x hx).2.2.2.2.2⟩) hm (lt_of_cell hm)).mono fun e W' ⟨he, bel⟩ => ?_
  subst he
  refine ⟨_, rfl, _, _, _, [], _, [], hW', trodAll_mk1 (shut_bool Tryd.underlying4 _), (trodAll_cons_mk (Below.trod laidOut (by kernel_rfl) (of_decide_eq_true (by kernel_rfl)) h0 bel lt0) (trodAll_cons_mk (Below.trod laidOut (by kernel_rfl) (of_decide_eq_true (by kernel_rfl)) h1 bel lt1) trodAll_mk0)), rfl, bel.frame _, fun h => by cases h⟩
theorem over : Rows.bookAppendsUptoRow.holds Tryd.pinned (Rows.OpenSpec.upto Rows.bookAppendsSpec) :=
  OpenClaim.holds_of_cond 6 Tryd.f6 rfl rfl rfl rfl rfl rfl rfl ⟨rfl, rfl, rfl, rfl, rfl⟩ rfl rfl rfl rfl rfl (by kernel_rfl) Tryd.func6 (by kernel_rfl)
    (of_decide_eq_true (by kernel_rfl)) (by unfold Func.isWrapper; first | (rw [if_pos (by decide +kernel)]; kernel_rfl) | (rw [if_neg (by decide +kernel)]; exact ⟨rfl, rfl⟩))
    (fun os started H enc _ F => by rw [OpenClaim.pre_eq_preRow]; exact lifted os started H enc F)
theorem card : Rows.BookAppendsUptoCardSaid :=
  Claim7.holds_tied_plain_at .later [] _ _ _ _ over (fun _ h => by cases h) (by kernel_rfl) (fun _ h => by cases h) bookAppendsUpto_row_tie rfl ⟨rfl, rfl⟩ (by kernel_rfl) rfl
    (fun f fn hf hfn => by
      obtain rfl : f = 6 := Option.some.inj ((show Tryd.prog.funcNamed "postroom/postroomlaw.BookAppends" = some 6 by kernel_rfl).symm.trans hf) |>.symm
      obtain rfl : fn = Tryd.f6 := (Option.some.inj (Tryd.func6.symm.trans hfn)).symm
      exact ⟨by kernel_rfl, fun j t ht => by
        have hm : t ∈ Tryd.f6.params.toList := by simpa using Array.mem_of_getElem? ht
        have hall : (Tryd.f6.params.toList.all fun u => !Tryd.prog.wantsStandIn u) = true := by kernel_rfl
        exact (show Tryd.prog.wantsStandIn t = false by simpa using List.all_eq_true.1 hall t hm)⟩)
    (by kernel_rfl)
end Go.Proofs.YtdffojjimoilgaaDoor.bookAppends
namespace Go.Proofs.YtdffojjimoilgaaDoor
theorem bookAppends_holds : Rows.BookAppendsUptoCardSaid := bookAppends.card
#print axioms bookAppends_holds
end Go.Proofs.YtdffojjimoilgaaDoor
