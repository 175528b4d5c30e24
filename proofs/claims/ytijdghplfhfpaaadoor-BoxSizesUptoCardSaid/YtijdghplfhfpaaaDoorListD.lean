/- Lists of addresses: who.List, its deferred closure: the walks. -/
import Derived.Test.YtijdghplfhfpaaaDoorListC
import Derived.Test.YtijdghplfhfpaaaDoorAddrA
import Derived.Defers
import Derived.Recover
namespace Go.Proofs.YtijdghplfhfpaaaDoor.H
open Go.RowKit Go.Proofs.YtijdghplfhfpaaaDoorW.PrintWords Go.Proofs.YtijdghplfhfpaaaDoorW.PrintLast Go.Proofs.YtijdghplfhfpaaaDoorW.PrintMore Go.Proofs.YtijdghplfhfpaaaDoor.U
set_option linter.unusedVariables false
set_option linter.unusedSimpArgs false
/-- The panic of who.must, recovered. -/
def mustR : List PanicEntry := [{ v := .iface 26 (.int .i64 3), recovered := true }]
theorem catch_panicking (bl be : Nat) (v u : Value) (w : World) (hl : Blk w bl [v]) (he : Blk w be [u]) (hne : bl ≠ be) :
    CallsD Tryd.prog 145 #[.pointer (some ⟨bl, 0, none⟩), .pointer (some ⟨be, 0, none⟩)] (.panicking mustP) w fun e u' w' =>
      e = .returned (.tuple #[]) ∧ u' = .panicking mustR ∧ Blk w' bl [.slice none 0 0] ∧ Blk w' be [.int .i64 3] ∧ (∀ B, B ≤ bl → B ≤ be → Below B w w') := by
  have c0 := hl.at 0 _ rfl
  have c1 := he.at 0 _ rfl
  have f0 := hl.free 0 _ rfl
  have f1 := he.free 0 _ rfl
  refine callsD_of_wpS Tryd.func145 rfl fun c₀ cs hu => ?_
  unfold mustP at hu
  apply wpS_seq
  apply wpS_region
  simp [wpOpsS, go_sem, recoverD, hu, Tryd.ntmps145, Exit.thenS]
  refine wpS_of_wp ?_
  rw [show (#[Value.pointer (some ⟨bl, 0, none⟩), Value.pointer (some ⟨be, 0, none⟩)] ++ ((Array.replicate 6 undef).setIfInBounds 1 (Value.iface 26 (Value.int IntKind.i64 3))).setIfInBounds 0 (Value.iface 26 (Value.int IntKind.i64 3)) : Array Value) = #[Value.pointer (some ⟨bl, 0, none⟩), Value.pointer (some ⟨be, 0, none⟩), Value.iface 26 (Value.int IntKind.i64 3), Value.iface 26 (Value.int IntKind.i64 3), undef, undef, undef, undef] from rfl]
  have ht : ∀ w, (Instr.typeAssert (.iface 26 (.int .i64 3)) 20 26 false).run Tryd.prog w = .ok (.int .i64 3) w := fun _ => by kernel_rfl
  go_wp2
  go_region
  refine ⟨rfl, _, rfl, _, by simp [results, Tryd.results145, go_sem], rfl, rfl, ?_, ?_, fun B h1 h2 => ?_⟩
  · exact ((hl.set 0 (.slice none 0 0) (by simp)).other (c := be) (j := 0) (fun h => hne h.symm) (.int .i64 3)).drew
  · exact ((he.other (c := bl) (j := 0) hne (.slice none 0 0)).set 0 (.int .i64 3) (by simp)).drew
  · exact (((Below.refl B w).setCell (p := ⟨bl, 0, none⟩) h1 _).setCell (p := ⟨be, 0, none⟩) h2 _).drew
theorem catch_idle (bl be : Nat) (w : World) :
    CallsD Tryd.prog 145 #[.pointer (some ⟨bl, 0, none⟩), .pointer (some ⟨be, 0, none⟩)] .returning w fun e u' w' => e = .returned (.tuple #[]) ∧ u' = .returning ∧ w' = w := by
  refine callsD_of_wpS Tryd.func145 rfl fun c₀ cs hu => ?_
  apply wpS_seq
  apply wpS_region
  simp [wpOpsS, go_sem, recoverD, hu, Tryd.ntmps145, Exit.thenS]
  refine wpS_of_wp ?_
  rw [show (#[Value.pointer (some ⟨bl, 0, none⟩), Value.pointer (some ⟨be, 0, none⟩)] ++ ((Array.replicate 6 undef).setIfInBounds 1 Value.nilIface).setIfInBounds 0 Value.nilIface : Array Value) = #[Value.pointer (some ⟨bl, 0, none⟩), Value.pointer (some ⟨be, 0, none⟩), Value.nilIface, Value.nilIface, undef, undef, undef, undef] from rfl]
  go_wp2
  exact ⟨rfl, .returning, by cases c₀; simp_all, _, by simp [results, Tryd.results145, go_sem], rfl, rfl, rfl⟩
theorem okAddr_empty : ∀ x, okAddr x ⟨#[]⟩ = false ∧ okAddr ⟨#[]⟩ x = false := by
  intro x
  have h : dotB ⟨#[]⟩ = false := rfl
  constructor
  · simp [okAddr, addrFault, h]
  · simp [okAddr, addrFault, h]
def listRes (R : Option (List AAddress)) : Int × List AAddress :=
  match R with
  | none => (3, [])
  | some l => if 20 < l.length then (5, []) else (0, l)
def listV (s : ByteArray) : Int × List AAddress := if 2000 < s.size then (1, []) else listRes (listP okAddr s 0)
/-- A list of addresses and an Errno are handed back. -/
def PostL (w : World) (r : Int × List AAddress) (e : Ending) (w' : World) : Prop :=
  ∃ v : Value, e = .returned (.tuple #[v, .int .i64 r.1]) ∧ Kd.R kAAddress 49 w' w.heap.size (fun _ => True) v r.2 ∧ Below w.heap.size w w'
set_option maxHeartbeats 1000000 in
set_option maxRecDepth 100000 in
theorem list_calls (s : ByteArray) (m : Int) (w : World) (hs : s.size ≤ 1048576) (hm : w.cell? ⟨6, 0, none⟩ = some (.int .i64 m)) (hg : 6 < w.heap.size) :
    Calls Tryd.prog 87 #[.string s] w (PostL w (listV s)) := by
  have hmf : ∀ (fn : Fn) (first cap : Array Value) (w : World), (Instr.makeFunc fn first cap).run Tryd.prog w = .ok (.func fn first cap) w := fun _ _ _ _ => rfl
  unfold listV
  by_cases hz : 2000 < s.size
  · rw [if_pos hz]
    have hz' : (2000 : Int) < s.size := by omega
    go_enter_defers Tryd.func87, Tryd.ntmps87
    go_wp2
    refine ⟨.tuple #[.slice none 0 0, .int .i64 1], by simp [results, Tryd.results87, go_sem], ?_⟩
    refine ⟨_, rfl, Kd.R_nil _ _ _ _ _, (by repeat (first | exact Below.refl _ _ | apply below_alloc | apply pw_below_drewN | apply below_drew1 | (refine Below.setCell ?_ (by first | (simp; done) | (simp; omega) | omega) _) ))⟩
  · rw [if_neg hz]
    have hz' : ¬ (2000 : Int) < s.size := by omega
    generalize hR : listP okAddr s 0 = R
    go_enter_defers Tryd.func87, Tryd.ntmps87
    go_wp2_with fail
    go_loopw [] (fun wr => ∃ (i : Nat) (acc : List AAddress) (v : Value), i ≤ s.size ∧ Cur wr (w.heap.size + 2) s i ∧ Blk wr w.heap.size [v] ∧ Blk wr (w.heap.size + 1) [.int .i64 0] ∧ Kd.R kAAddress 49 wr (w.heap.size + 3) (fun _ => True) v acc ∧ (listP okAddr s i).map (acc ++ ·) = R ∧ acc.length ≤ i ∧ Below w.heap.size w wr) (fun wr => s.size - placeOf wr (w.heap.size + 2))
    case atStart =>
      refine ⟨0, [], .slice none 0 0, Nat.zero_le _, Cur.made_at _ 0 _ _ (by simp), ((Blk.made w #[.slice none 0 0] _).alloc _).alloc _, (Blk.made_at #[.int .i64 0] _ _ (by simp)).alloc _, Kd.R_nil _ _ _ _ _, ?_, Nat.le_refl _, (by repeat (first | exact Below.refl _ _ | apply below_alloc | apply pw_below_drewN | apply below_drew1 | (refine Below.setCell ?_ (by first | (simp; done) | (simp; omega) | omega) _) ))⟩
      · rw [← hR]; cases listP okAddr s 0 <;> rfl
    case round =>
      clear hR
      obtain ⟨i, acc, v, hi, hc, kl, ke, hRow, hR, hacc, hB⟩ := hrel
      have hp2 := hc.place
      have HA := fun W hc hm => raddress_calls (w.heap.size + 2) s i m W hc hi hs hm (by omega)
      rw [listP] at hR
      have hAg := addr_agree (ok := okAddr) (s := s) okAddr_empty i false hi
      generalize addrP okAddr s i true = A at *
      have HA := Lib.hid HA
      have c0 := kl.at 0 _ rfl
      have hM := cell_below hB hm hg
      cases A with
      | none =>
        simp only [Option.map_none] at hR
        subst hR
        go_wp2_with fail
        refine wp_region_held_drew (S := fun w' => w'.cell? ⟨w.heap.size, 0, none⟩ = some v) (by kernel_rfl) (by simpa using c0) (fun hHeld => ?_)
        refine wpAnyH_take (i := 0) (oi := { dst := some 12, op := _, type := _, pos := _, after := _, guard := _ }) (v := v) rfl (by kernel_rfl) (by kernel_rfl) (by kernel_rfl) (fun _ _ _ h => panic_put (fn := Tryd.f87) (d := 12) (v := v) (by simp [results, Tryd.results87]) h) (Or.inl ⟨by rfl, by (intro w hSw; (try dsimp only at hSw); first | (go_simp; done) | (go_simp; with_reducible rfl) | (go_simp; omega) | (go_simp; simp [*]; done))⟩) (by assumption) ?_; try simp only [Act.put, List.setIfInBounds_toArray, List.set_cons_zero, List.set_cons_succ]
        refine wpAnyH_take (i := 1) (oi := { dst := some 13, op := _, type := _, pos := _, after := _, guard := _ }) (v := .pointer (some ⟨w.heap.size + 2, 0, none⟩)) rfl (by kernel_rfl) (by kernel_rfl) (by kernel_rfl) (fun _ _ _ h => panic_put (fn := Tryd.f87) (d := 13) (v := .pointer (some ⟨w.heap.size + 2, 0, none⟩)) (by simp [results, Tryd.results87]) h) (Or.inl ⟨by rfl, by (intro w hSw; (try dsimp only at hSw); first | (go_simp; done) | (go_simp; with_reducible rfl) | (go_simp; omega) | (go_simp; simp [*]; done))⟩) (by assumption) ?_; try simp only [Act.put, List.setIfInBounds_toArray, List.set_cons_zero, List.set_cons_succ]
        refine wpAnyH_ready (rs := [2]) (by kernel_rfl) (by simp) ?_
        refine AllReadyH.cons (o := { dst := some 14, op := _, type := _, pos := _, after := _, guard := _ }) rfl (fun K hK => ?_) AllReadyH.nil
        go_simp
        go_at_call 146
        refine (HA.out _ hc.drew (by simpa using hM)).mono ?_
        intro e w1 h1
        obtain ⟨rfl, g1⟩ : _ ∧ _ := h1
        go_wp2_with fail
        have bb1 : Below w.heap.size w w1 := below_row2 hB.drew g1
        refine leaves_cons (f := 145) (args := #[.pointer (some ⟨w.heap.size, 0, none⟩), .pointer (some ⟨w.heap.size + 1, 0, none⟩)]) (by simp) (by simp [go_sem]) ?_
        refine (catch_panicking _ _ _ _ _ (kl.drew.grown g1 (by simp)) (ke.drew.grown g1 (by simp)) (by omega)).mono ?_
        rintro e u' w'' ⟨rfl, rfl, h1, h2, h3⟩
        have c1 := h1.at 0 _ rfl
        have c2 := h2.at 0 _ rfl
        simp only [Leaves, settle, mustR, List.dropWhile]
        exact ⟨.tuple #[.slice none 0 0, .int .i64 3], by simp [results, Tryd.results87, go_sem, c1, c2], _, rfl, Kd.R_nil _ _ _ _ _, bb1.trans (h3 _ (by omega) (by omega))⟩
      | some x =>
        obtain ⟨a, j⟩ := x
        simp only at hR
        obtain ⟨A0, cap0, rfl⟩ := Kd.R_slice hRow
        have hlen1 : (acc ++ [a]).length = acc.length + 1 := by simp
        obtain ⟨hij, hj, _⟩ : i < j ∧ j ≤ s.size ∧ _ := hAg
        have HS := Lib.hid (fun W hc => rskip_calls (w.heap.size + 2) s j W hc hj (by omega))
        have hk1 := span_ge blankB s j hj
        have hk2 := span_le blankB s j hj
        have HN := Lib.hid (fun W hc => rnext_cur (w.heap.size + 2) s (spanEnd blankB s j) W hc hk2 (by omega))
        generalize spanEnd blankB s j = k at *
        have hMd : wr.drew.cell? ⟨6, 0, none⟩ = some (.int .i64 m) := by simpa using hM
        go_wp2_with fail
        refine wp_region_held_drew (S := fun _ => True) (by kernel_rfl) trivial (fun hHeld => ?_)
        refine wpAnyH_take (i := 1) (oi := { dst := some 13, op := _, type := _, pos := _, after := _, guard := _ }) (v := .pointer (some ⟨w.heap.size + 2, 0, none⟩)) rfl (by kernel_rfl) (by kernel_rfl) (by kernel_rfl) (fun _ _ _ h => panic_put (fn := Tryd.f87) (d := 13) (v := .pointer (some ⟨w.heap.size + 2, 0, none⟩)) (by simp [results, Tryd.results87]) h) (Or.inl ⟨by rfl, by (intro w hSw; (try dsimp only at hSw); first | (go_simp; done) | (go_simp; with_reducible rfl) | (go_simp; omega) | (go_simp; simp [*]; done))⟩) (by assumption) ?_; try simp only [Act.put, List.setIfInBounds_toArray, List.set_cons_zero, List.set_cons_succ]
        refine wpAnyH_ready (rs := [0, 2]) (by kernel_rfl) (by simp) ?_
        refine AllReadyH.cons (o := { dst := some 12, op := _, type := _, pos := _, after := _, guard := _ }) rfl (fun K hK => ?_) (AllReadyH.cons (o := { dst := some 14, op := _, type := _, pos := _, after := _, guard := _ }) rfl (fun K hK => ?_) AllReadyH.nil)
        · go_simp
          refine hK.out _ _ trivial (fun hHeld => ?_)
          clear hK K
          refine wpAnyH_ready (rs := [2]) (by kernel_rfl) (by simp) ?_
          refine AllReadyH.cons (o := { dst := some 14, op := _, type := _, pos := _, after := _, guard := _ }) rfl (fun K hK => ?_) AllReadyH.nil
          go_simp
          go_at_call 146
          refine (HA.out _ hc.drew hMd).mono ?_
          intro e w1 h1
          obtain ⟨rfl, hc1, g1⟩ : _ ∧ _ ∧ _ := h1
          have bb1 : Below w.heap.size w w1 := below_row2 hB.drew g1
          have kl1 := kl.drew.grown g1 (by simp)
          have ke1 := ke.drew.grown g1 (by simp)
          have hRow1 := R_grownE (Kd.R_drew hRow) g1 (by omega)
          have z1 := g1.size
          have lt1 := hc1.lt
          have d1 := kl1.at 0 _ rfl
          simp only [Result.andThen]
          refine hK.out _ _ trivial (fun hHeld => ?_)
          clear hK K
          refine wpAnyH_ready (rs := [3]) (by kernel_rfl) (by simp) ?_
          refine AllReadyH.cons (o := { dst := some 15, op := _, type := _, pos := _, after := _, guard := _ }) rfl (fun K hK => ?_) AllReadyH.nil
          go_simp
          refine hK.out _ _ trivial (fun hHeld => ?_)
          clear hK K
          refine wpAnyH_ready (rs := [4]) (by kernel_rfl) (by simp) ?_
          refine AllReadyH.cons (o := { dst := some 16, op := _, type := _, pos := _, after := _, guard := _ }) rfl (fun K hK => ?_) AllReadyH.nil
          refine snoc_step rowAAddress (w.heap.size + 3) (by rfl) (.tmp 12) (.tmp 15) (by rfl) (.slice A0 acc.length cap0) acc a [.string a.loc, .string a.dom] (by rfl) (by rfl) rfl hRow1 (by omega) (by omega) ?_
          intro v2 w2 hRow2 hb2 hg2
          obtain ⟨A2, cap2, rfl⟩ := Kd.R_slice hRow2
          have kl2 := kl1.beside hRow1 hg2 (by omega)
          have ke2 := ke1.beside hRow1 hg2 (by omega)
          have hc2 := hc1.kept hg2 (fun he => by obtain ⟨inner, ho⟩ := Kd.R_own hRow1; have := own_base ho _ he.symm; omega)
          have bb2 : Below w.heap.size w w2 := bb1.trans (hb2.mono (by omega))
          have z2 := hb2.size
          have d2 := kl2.at 0 _ rfl
          have f2 := kl2.free 0 _ rfl
          refine hK.out _ _ trivial (fun hHeld => ?_)
          clear hK K
          refine wpAnyH_ready (rs := [5]) (by kernel_rfl) (by simp) ?_
          refine AllReadyH.cons (o := { dst := none, op := _, type := _, pos := _, after := _, guard := _ }) rfl (fun K hK => ?_) AllReadyH.nil
          go_simp
          refine hK.out _ _ trivial (fun hHeld => ?_)
          clear hK K
          refine wpAnyH_done (by kernel_rfl) ?_ _
          rw [hlen1] at hRow2
          have kl3 := kl2.set 0 (.slice A2 (acc.length + 1) cap2) (by simp)
          have ke3 := ke2.other (c := w.heap.size) (j := 0) (by omega) (.slice A2 (acc.length + 1) cap2)
          have hc3 := hc2.other (c := w.heap.size) (j := 0) (by omega) (.slice A2 (acc.length + 1) cap2)
          have hRow3 := R_elder hRow2 (p := ⟨w.heap.size, 0, none⟩) (by first | (simp; done) | (simp; omega) | omega) (.slice A2 (acc.length + 1) cap2)
          have bb3 := bb2.setCell (p := ⟨w.heap.size, 0, none⟩) (Nat.le_refl _) (.slice A2 (acc.length + 1) cap2)
          generalize w2.setCell ⟨w.heap.size, 0, none⟩ (.slice A2 (acc.length + 1) cap2) = w3 at *
          go_wp2_with fail
          refine (HS.out _ hc3).mono ?_
          rintro e w4 ⟨rfl, hc4, g4⟩
          have kl4 := kl3.grown g4 (by simp)
          have ke4 := ke3.grown g4 (by simp)
          have hRow4 := R_grownE hRow3 g4 (by omega)
          have bb4 : Below w.heap.size w w4 := below_row2 bb3 g4
          have hcc := hc4
          obtain ⟨c0, c1, f0, f1, lt⟩ := hcc
          by_cases hkl : k < s.size
          · rw [if_pos hkl] at hR
            have e1 : ((k : Int) == s.size) = false := by rw [beq_eq_false_iff_ne]; omega
            go_wp2_with fail
            go_quiet (fail)
            have hc5 := hc4.drawN nq
            have kl5 := kl4.drawN nq
            have ke5 := ke4.drawN nq
            have hRow5 := Kd.R_drewN hRow4 nq
            have bb5 := pw_below_drewN bb4 nq
            generalize w4.drewN nq = w5 at *
            clear c0 c1 f0 f1 lt hc4 kl4 ke4 hRow4 bb4 g4
            by_cases h44 : nx s k = 44
            · rw [if_pos ⟨h44, by omega⟩] at hR
              rw [h44] at HN
              clear h44
              have hR := Lib.hid hR
              go_wp2_with fail
              refine (HN.out _ hc5).mono ?_
              rintro e w6 ⟨rfl, hc6, g6⟩
              have kl6 := kl5.grown g6 (by simp)
              have ke6 := ke5.grown g6 (by simp)
              have hRow6 := R_grownE hRow5 g6 (by omega)
              have bb6 : Below w.heap.size w w6 := below_row2 bb5 g6
              have hc7 := hc6.setI ((k : Int) + 1) (k + 1) (by omega)
              obtain ⟨c0, c1, f0, f1, lt⟩ := hc6
              go_wp2_with fail
              refine (must_yes _).mono ?_
              rintro e w6' ⟨rfl, rfl⟩
              go_wp2_with fail
              go_roundw
              case rel =>
                refine ⟨k + 1, acc ++ [a], _, hkl, hc7, kl6.other (by first | (simp; done) | (simp; omega) | omega) _, ke6.other (by first | (simp; done) | (simp; omega) | omega) _, R_elder hRow6 (by first | (simp; done) | (simp; omega) | omega) _, ?_, by simp; omega, bb6.setCell (by first | (simp; done) | (simp; omega) | omega) _⟩
                rw [← hR.out]
                cases listP okAddr s (k + 1) <;> simp
              case measure => rw [hp2, hc7.place]; omega
            · rw [if_neg (fun h => h44 h.1)] at hR
              simp only [Option.map_none] at hR
              subst hR
              have e2 : (nx s k == 44) = false := by rw [beq_eq_false_iff_ne]; exact h44
              clear h44
              generalize nx s k = x at *
              go_wp2_with fail
              refine (HN.out _ hc5).mono ?_
              rintro e w6 ⟨rfl, hc6, g6⟩
              have kl6 := kl5.grown g6 (by simp)
              have ke6 := ke5.grown g6 (by simp)
              have bb6 : Below w.heap.size w w6 := below_row2 bb5 g6
              go_wp2_with fail
              refine (must_no _).mono ?_
              rintro e w6' ⟨rfl, rfl⟩
              go_wp2_with fail
              refine leaves_cons (f := 145) (args := #[.pointer (some ⟨w.heap.size, 0, none⟩), .pointer (some ⟨w.heap.size + 1, 0, none⟩)]) (by simp) (by simp [go_sem]) ?_
              refine (catch_panicking _ _ _ _ _ kl6 ke6 (by omega)).mono ?_
              rintro e u' w'' ⟨rfl, rfl, h1, h2, h3⟩
              have c1 := h1.at 0 _ rfl
              have c2 := h2.at 0 _ rfl
              simp only [Leaves, settle, mustR, List.dropWhile]
              exact ⟨.tuple #[.slice none 0 0, .int .i64 3], by simp [results, Tryd.results87, go_sem, c1, c2], _, rfl, Kd.R_nil _ _ _ _ _, bb6.trans (h3 _ (by omega) (by omega))⟩
          · rw [if_neg hkl] at hR
            simp only [Option.map_some] at hR
            subst hR
            obtain rfl : k = s.size := by omega
            go_wp2_with fail
            go_quiet (fail)
            have kl5 := kl4.drawN nq
            have ke5 := ke4.drawN nq
            have hRow5 := Kd.R_drewN hRow4 nq
            have bb5 := pw_below_drewN bb4 nq
            generalize w4.drewN nq = w5 at *
            clear c0 c1 f0 f1 lt hc4 kl4 ke4 hRow4 bb4 g4
            have d0 := kl5.at 0 _ rfl
            have d1 := ke5.at 0 _ rfl
            have d2 := kl5.free 0 _ rfl
            have d3 := ke5.free 0 _ rfl
            by_cases h20 : 20 < acc.length + 1
            · have h20' : (20 : Int) < (acc.length : Int) + 1 := by omega
              have hres : listRes (some (acc ++ [a])) = (5, []) := by rw [listRes, if_pos (by simp; omega)]
              generalize listRes (some (acc ++ [a])) = res at *
              subst hres
              go_wp2_with fail
              refine leaves_cons (f := 145) (args := #[.pointer (some ⟨w.heap.size, 0, none⟩), .pointer (some ⟨w.heap.size + 1, 0, none⟩)]) (by simp) (by simp [go_sem]) ?_
              refine (catch_idle _ _ _).mono ?_
              rintro e u' w'' ⟨rfl, rfl, rfl⟩
              simp only [Leaves, settle]
              exact ⟨.tuple #[.slice none 0 0, .int .i64 5], by simp [results, Tryd.results87, go_sem, *], _, rfl, Kd.R_nil _ _ _ _ _, by (iterate 2 (refine Below.setCell ?_ (by first | (simp; done) | (simp; omega) | omega) _)); exact bb5⟩
            · have h20' : ¬ (20 : Int) < (acc.length : Int) + 1 := by omega
              have hres : listRes (some (acc ++ [a])) = (0, acc ++ [a]) := by rw [listRes, if_neg (by simp; omega)]
              generalize listRes (some (acc ++ [a])) = res at *
              subst hres
              go_wp2_with fail
              refine leaves_cons (f := 145) (args := #[.pointer (some ⟨w.heap.size, 0, none⟩), .pointer (some ⟨w.heap.size + 1, 0, none⟩)]) (by simp) (by simp [go_sem]) ?_
              refine (catch_idle _ _ _).mono ?_
              rintro e u' w'' ⟨rfl, rfl, rfl⟩
              simp only [Leaves, settle]
              exact ⟨.tuple #[.slice A2 (acc.length + 1) cap2, .int .i64 0], by simp [results, Tryd.results87, go_sem, *], _, rfl, Kd.R_lower (R_elder (R_elder hRow5 (by first | (simp; done) | (simp; omega) | omega) _) (by first | (simp; done) | (simp; omega) | omega) _) (by omega), by (iterate 2 (refine Below.setCell ?_ (by first | (simp; done) | (simp; omega) | omega) _)); exact bb5⟩
        · go_simp
          go_at_call 146
          refine (HA.out _ hc.drew hMd).mono ?_
          intro e w1 h1
          obtain ⟨rfl, hc1, g1⟩ : _ ∧ _ ∧ _ := h1
          have bb1 : Below w.heap.size w w1 := below_row2 hB.drew g1
          have kl1 := kl.drew.grown g1 (by simp)
          have ke1 := ke.drew.grown g1 (by simp)
          have hRow1 := R_grownE (Kd.R_drew hRow) g1 (by omega)
          have z1 := g1.size
          have lt1 := hc1.lt
          have d1 := kl1.at 0 _ rfl
          simp only [Result.andThen]
          refine hK.out _ _ trivial (fun hHeld => ?_)
          clear hK K
          refine wpAnyH_ready (rs := [0, 3]) (by kernel_rfl) (by simp) ?_
          refine AllReadyH.cons (o := { dst := some 12, op := _, type := _, pos := _, after := _, guard := _ }) rfl (fun K hK => ?_) (AllReadyH.cons (o := { dst := some 15, op := _, type := _, pos := _, after := _, guard := _ }) rfl (fun K hK => ?_) AllReadyH.nil)
          · go_simp
            refine hK.out _ _ trivial (fun hHeld => ?_)
            clear hK K
            refine wpAnyH_ready (rs := [3]) (by kernel_rfl) (by simp) ?_
            refine AllReadyH.cons (o := { dst := some 15, op := _, type := _, pos := _, after := _, guard := _ }) rfl (fun K hK => ?_) AllReadyH.nil
            go_simp
            refine hK.out _ _ trivial (fun hHeld => ?_)
            clear hK K
            refine wpAnyH_ready (rs := [4]) (by kernel_rfl) (by simp) ?_
            refine AllReadyH.cons (o := { dst := some 16, op := _, type := _, pos := _, after := _, guard := _ }) rfl (fun K hK => ?_) AllReadyH.nil
            refine snoc_step rowAAddress (w.heap.size + 3) (by rfl) (.tmp 12) (.tmp 15) (by rfl) (.slice A0 acc.length cap0) acc a [.string a.loc, .string a.dom] (by rfl) (by rfl) rfl hRow1 (by omega) (by omega) ?_
            intro v2 w2 hRow2 hb2 hg2
            obtain ⟨A2, cap2, rfl⟩ := Kd.R_slice hRow2
            have kl2 := kl1.beside hRow1 hg2 (by omega)
            have ke2 := ke1.beside hRow1 hg2 (by omega)
            have hc2 := hc1.kept hg2 (fun he => by obtain ⟨inner, ho⟩ := Kd.R_own hRow1; have := own_base ho _ he.symm; omega)
            have bb2 : Below w.heap.size w w2 := bb1.trans (hb2.mono (by omega))
            have z2 := hb2.size
            have d2 := kl2.at 0 _ rfl
            have f2 := kl2.free 0 _ rfl
            refine hK.out _ _ trivial (fun hHeld => ?_)
            clear hK K
            refine wpAnyH_ready (rs := [5]) (by kernel_rfl) (by simp) ?_
            refine AllReadyH.cons (o := { dst := none, op := _, type := _, pos := _, after := _, guard := _ }) rfl (fun K hK => ?_) AllReadyH.nil
            go_simp
            refine hK.out _ _ trivial (fun hHeld => ?_)
            clear hK K
            refine wpAnyH_done (by kernel_rfl) ?_ _
            rw [hlen1] at hRow2
            have kl3 := kl2.set 0 (.slice A2 (acc.length + 1) cap2) (by simp)
            have ke3 := ke2.other (c := w.heap.size) (j := 0) (by omega) (.slice A2 (acc.length + 1) cap2)
            have hc3 := hc2.other (c := w.heap.size) (j := 0) (by omega) (.slice A2 (acc.length + 1) cap2)
            have hRow3 := R_elder hRow2 (p := ⟨w.heap.size, 0, none⟩) (by first | (simp; done) | (simp; omega) | omega) (.slice A2 (acc.length + 1) cap2)
            have bb3 := bb2.setCell (p := ⟨w.heap.size, 0, none⟩) (Nat.le_refl _) (.slice A2 (acc.length + 1) cap2)
            generalize w2.setCell ⟨w.heap.size, 0, none⟩ (.slice A2 (acc.length + 1) cap2) = w3 at *
            go_wp2_with fail
            refine (HS.out _ hc3).mono ?_
            rintro e w4 ⟨rfl, hc4, g4⟩
            have kl4 := kl3.grown g4 (by simp)
            have ke4 := ke3.grown g4 (by simp)
            have hRow4 := R_grownE hRow3 g4 (by omega)
            have bb4 : Below w.heap.size w w4 := below_row2 bb3 g4
            have hcc := hc4
            obtain ⟨c0, c1, f0, f1, lt⟩ := hcc
            by_cases hkl : k < s.size
            · rw [if_pos hkl] at hR
              have e1 : ((k : Int) == s.size) = false := by rw [beq_eq_false_iff_ne]; omega
              go_wp2_with fail
              go_quiet (fail)
              have hc5 := hc4.drawN nq
              have kl5 := kl4.drawN nq
              have ke5 := ke4.drawN nq
              have hRow5 := Kd.R_drewN hRow4 nq
              have bb5 := pw_below_drewN bb4 nq
              generalize w4.drewN nq = w5 at *
              clear c0 c1 f0 f1 lt hc4 kl4 ke4 hRow4 bb4 g4
              by_cases h44 : nx s k = 44
              · rw [if_pos ⟨h44, by omega⟩] at hR
                rw [h44] at HN
                clear h44
                have hR := Lib.hid hR
                go_wp2_with fail
                refine (HN.out _ hc5).mono ?_
                rintro e w6 ⟨rfl, hc6, g6⟩
                have kl6 := kl5.grown g6 (by simp)
                have ke6 := ke5.grown g6 (by simp)
                have hRow6 := R_grownE hRow5 g6 (by omega)
                have bb6 : Below w.heap.size w w6 := below_row2 bb5 g6
                have hc7 := hc6.setI ((k : Int) + 1) (k + 1) (by omega)
                obtain ⟨c0, c1, f0, f1, lt⟩ := hc6
                go_wp2_with fail
                refine (must_yes _).mono ?_
                rintro e w6' ⟨rfl, rfl⟩
                go_wp2_with fail
                go_roundw
                case rel =>
                  refine ⟨k + 1, acc ++ [a], _, hkl, hc7, kl6.other (by first | (simp; done) | (simp; omega) | omega) _, ke6.other (by first | (simp; done) | (simp; omega) | omega) _, R_elder hRow6 (by first | (simp; done) | (simp; omega) | omega) _, ?_, by simp; omega, bb6.setCell (by first | (simp; done) | (simp; omega) | omega) _⟩
                  rw [← hR.out]
                  cases listP okAddr s (k + 1) <;> simp
                case measure => rw [hp2, hc7.place]; omega
              · rw [if_neg (fun h => h44 h.1)] at hR
                simp only [Option.map_none] at hR
                subst hR
                have e2 : (nx s k == 44) = false := by rw [beq_eq_false_iff_ne]; exact h44
                clear h44
                generalize nx s k = x at *
                go_wp2_with fail
                refine (HN.out _ hc5).mono ?_
                rintro e w6 ⟨rfl, hc6, g6⟩
                have kl6 := kl5.grown g6 (by simp)
                have ke6 := ke5.grown g6 (by simp)
                have bb6 : Below w.heap.size w w6 := below_row2 bb5 g6
                go_wp2_with fail
                refine (must_no _).mono ?_
                rintro e w6' ⟨rfl, rfl⟩
                go_wp2_with fail
                refine leaves_cons (f := 145) (args := #[.pointer (some ⟨w.heap.size, 0, none⟩), .pointer (some ⟨w.heap.size + 1, 0, none⟩)]) (by simp) (by simp [go_sem]) ?_
                refine (catch_panicking _ _ _ _ _ kl6 ke6 (by omega)).mono ?_
                rintro e u' w'' ⟨rfl, rfl, h1, h2, h3⟩
                have c1 := h1.at 0 _ rfl
                have c2 := h2.at 0 _ rfl
                simp only [Leaves, settle, mustR, List.dropWhile]
                exact ⟨.tuple #[.slice none 0 0, .int .i64 3], by simp [results, Tryd.results87, go_sem, c1, c2], _, rfl, Kd.R_nil _ _ _ _ _, bb6.trans (h3 _ (by omega) (by omega))⟩
            · rw [if_neg hkl] at hR
              simp only [Option.map_some] at hR
              subst hR
              obtain rfl : k = s.size := by omega
              go_wp2_with fail
              go_quiet (fail)
              have kl5 := kl4.drawN nq
              have ke5 := ke4.drawN nq
              have hRow5 := Kd.R_drewN hRow4 nq
              have bb5 := pw_below_drewN bb4 nq
              generalize w4.drewN nq = w5 at *
              clear c0 c1 f0 f1 lt hc4 kl4 ke4 hRow4 bb4 g4
              have d0 := kl5.at 0 _ rfl
              have d1 := ke5.at 0 _ rfl
              have d2 := kl5.free 0 _ rfl
              have d3 := ke5.free 0 _ rfl
              by_cases h20 : 20 < acc.length + 1
              · have h20' : (20 : Int) < (acc.length : Int) + 1 := by omega
                have hres : listRes (some (acc ++ [a])) = (5, []) := by rw [listRes, if_pos (by simp; omega)]
                generalize listRes (some (acc ++ [a])) = res at *
                subst hres
                go_wp2_with fail
                refine leaves_cons (f := 145) (args := #[.pointer (some ⟨w.heap.size, 0, none⟩), .pointer (some ⟨w.heap.size + 1, 0, none⟩)]) (by simp) (by simp [go_sem]) ?_
                refine (catch_idle _ _ _).mono ?_
                rintro e u' w'' ⟨rfl, rfl, rfl⟩
                simp only [Leaves, settle]
                exact ⟨.tuple #[.slice none 0 0, .int .i64 5], by simp [results, Tryd.results87, go_sem, *], _, rfl, Kd.R_nil _ _ _ _ _, by (iterate 2 (refine Below.setCell ?_ (by first | (simp; done) | (simp; omega) | omega) _)); exact bb5⟩
              · have h20' : ¬ (20 : Int) < (acc.length : Int) + 1 := by omega
                have hres : listRes (some (acc ++ [a])) = (0, acc ++ [a]) := by rw [listRes, if_neg (by simp; omega)]
                generalize listRes (some (acc ++ [a])) = res at *
                subst hres
                go_wp2_with fail
                refine leaves_cons (f := 145) (args := #[.pointer (some ⟨w.heap.size, 0, none⟩), .pointer (some ⟨w.heap.size + 1, 0, none⟩)]) (by simp) (by simp [go_sem]) ?_
                refine (catch_idle _ _ _).mono ?_
                rintro e u' w'' ⟨rfl, rfl, rfl⟩
                simp only [Leaves, settle]
                exact ⟨.tuple #[.slice A2 (acc.length + 1) cap2, .int .i64 0], by simp [results, Tryd.results87, go_sem, *], _, rfl, Kd.R_lower (R_elder (R_elder hRow5 (by first | (simp; done) | (simp; omega) | omega) _) (by first | (simp; done) | (simp; omega) | omega) _) (by omega), by (iterate 2 (refine Below.setCell ?_ (by first | (simp; done) | (simp; omega) | omega) _)); exact bb5⟩
          · go_simp
            refine hK.out _ _ trivial (fun hHeld => ?_)
            clear hK K
            have d1 := (kl1.alloc (.cells #[.string a.loc, .string a.dom] 49)).at 0 _ rfl
            refine wpAnyH_ready (rs := [0]) (by kernel_rfl) (by simp) ?_
            refine AllReadyH.cons (o := { dst := some 12, op := _, type := _, pos := _, after := _, guard := _ }) rfl (fun K hK => ?_) AllReadyH.nil
            go_simp
            refine hK.out _ _ trivial (fun hHeld => ?_)
            clear hK K
            refine wpAnyH_ready (rs := [4]) (by kernel_rfl) (by simp) ?_
            refine AllReadyH.cons (o := { dst := some 16, op := _, type := _, pos := _, after := _, guard := _ }) rfl (fun K hK => ?_) AllReadyH.nil
            refine snoc_step rowAAddress (w.heap.size + 3) (by rfl) (.tmp 12) (.tmp 15) (by rfl) (.slice A0 acc.length cap0) acc a [.string a.loc, .string a.dom] (by rfl) (by rfl) rfl hRow1 (by omega) (by omega) ?_
            intro v2 w2 hRow2 hb2 hg2
            obtain ⟨A2, cap2, rfl⟩ := Kd.R_slice hRow2
            have kl2 := kl1.beside hRow1 hg2 (by omega)
            have ke2 := ke1.beside hRow1 hg2 (by omega)
            have hc2 := hc1.kept hg2 (fun he => by obtain ⟨inner, ho⟩ := Kd.R_own hRow1; have := own_base ho _ he.symm; omega)
            have bb2 : Below w.heap.size w w2 := bb1.trans (hb2.mono (by omega))
            have z2 := hb2.size
            have d2 := kl2.at 0 _ rfl
            have f2 := kl2.free 0 _ rfl
            refine hK.out _ _ trivial (fun hHeld => ?_)
            clear hK K
            refine wpAnyH_ready (rs := [5]) (by kernel_rfl) (by simp) ?_
            refine AllReadyH.cons (o := { dst := none, op := _, type := _, pos := _, after := _, guard := _ }) rfl (fun K hK => ?_) AllReadyH.nil
            go_simp
            refine hK.out _ _ trivial (fun hHeld => ?_)
            clear hK K
            refine wpAnyH_done (by kernel_rfl) ?_ _
            rw [hlen1] at hRow2
            have kl3 := kl2.set 0 (.slice A2 (acc.length + 1) cap2) (by simp)
            have ke3 := ke2.other (c := w.heap.size) (j := 0) (by omega) (.slice A2 (acc.length + 1) cap2)
            have hc3 := hc2.other (c := w.heap.size) (j := 0) (by omega) (.slice A2 (acc.length + 1) cap2)
            have hRow3 := R_elder hRow2 (p := ⟨w.heap.size, 0, none⟩) (by first | (simp; done) | (simp; omega) | omega) (.slice A2 (acc.length + 1) cap2)
            have bb3 := bb2.setCell (p := ⟨w.heap.size, 0, none⟩) (Nat.le_refl _) (.slice A2 (acc.length + 1) cap2)
            generalize w2.setCell ⟨w.heap.size, 0, none⟩ (.slice A2 (acc.length + 1) cap2) = w3 at *
            go_wp2_with fail
            refine (HS.out _ hc3).mono ?_
            rintro e w4 ⟨rfl, hc4, g4⟩
            have kl4 := kl3.grown g4 (by simp)
            have ke4 := ke3.grown g4 (by simp)
            have hRow4 := R_grownE hRow3 g4 (by omega)
            have bb4 : Below w.heap.size w w4 := below_row2 bb3 g4
            have hcc := hc4
            obtain ⟨c0, c1, f0, f1, lt⟩ := hcc
            by_cases hkl : k < s.size
            · rw [if_pos hkl] at hR
              have e1 : ((k : Int) == s.size) = false := by rw [beq_eq_false_iff_ne]; omega
              go_wp2_with fail
              go_quiet (fail)
              have hc5 := hc4.drawN nq
              have kl5 := kl4.drawN nq
              have ke5 := ke4.drawN nq
              have hRow5 := Kd.R_drewN hRow4 nq
              have bb5 := pw_below_drewN bb4 nq
              generalize w4.drewN nq = w5 at *
              clear c0 c1 f0 f1 lt hc4 kl4 ke4 hRow4 bb4 g4
              by_cases h44 : nx s k = 44
              · rw [if_pos ⟨h44, by omega⟩] at hR
                rw [h44] at HN
                clear h44
                have hR := Lib.hid hR
                go_wp2_with fail
                refine (HN.out _ hc5).mono ?_
                rintro e w6 ⟨rfl, hc6, g6⟩
                have kl6 := kl5.grown g6 (by simp)
                have ke6 := ke5.grown g6 (by simp)
                have hRow6 := R_grownE hRow5 g6 (by omega)
                have bb6 : Below w.heap.size w w6 := below_row2 bb5 g6
                have hc7 := hc6.setI ((k : Int) + 1) (k + 1) (by omega)
                obtain ⟨c0, c1, f0, f1, lt⟩ := hc6
                go_wp2_with fail
                refine (must_yes _).mono ?_
                rintro e w6' ⟨rfl, rfl⟩
                go_wp2_with fail
                go_roundw
                case rel =>
                  refine ⟨k + 1, acc ++ [a], _, hkl, hc7, kl6.other (by first | (simp; done) | (simp; omega) | omega) _, ke6.other (by first | (simp; done) | (simp; omega) | omega) _, R_elder hRow6 (by first | (simp; done) | (simp; omega) | omega) _, ?_, by simp; omega, bb6.setCell (by first | (simp; done) | (simp; omega) | omega) _⟩
                  rw [← hR.out]
                  cases listP okAddr s (k + 1) <;> simp
                case measure => rw [hp2, hc7.place]; omega
              · rw [if_neg (fun h => h44 h.1)] at hR
                simp only [Option.map_none] at hR
                subst hR
                have e2 : (nx s k == 44) = false := by rw [beq_eq_false_iff_ne]; exact h44
                clear h44
                generalize nx s k = x at *
                go_wp2_with fail
                refine (HN.out _ hc5).mono ?_
                rintro e w6 ⟨rfl, hc6, g6⟩
                have kl6 := kl5.grown g6 (by simp)
                have ke6 := ke5.grown g6 (by simp)
                have bb6 : Below w.heap.size w w6 := below_row2 bb5 g6
                go_wp2_with fail
                refine (must_no _).mono ?_
                rintro e w6' ⟨rfl, rfl⟩
                go_wp2_with fail
                refine leaves_cons (f := 145) (args := #[.pointer (some ⟨w.heap.size, 0, none⟩), .pointer (some ⟨w.heap.size + 1, 0, none⟩)]) (by simp) (by simp [go_sem]) ?_
                refine (catch_panicking _ _ _ _ _ kl6 ke6 (by omega)).mono ?_
                rintro e u' w'' ⟨rfl, rfl, h1, h2, h3⟩
                have c1 := h1.at 0 _ rfl
                have c2 := h2.at 0 _ rfl
                simp only [Leaves, settle, mustR, List.dropWhile]
                exact ⟨.tuple #[.slice none 0 0, .int .i64 3], by simp [results, Tryd.results87, go_sem, c1, c2], _, rfl, Kd.R_nil _ _ _ _ _, bb6.trans (h3 _ (by omega) (by omega))⟩
            · rw [if_neg hkl] at hR
              simp only [Option.map_some] at hR
              subst hR
              obtain rfl : k = s.size := by omega
              go_wp2_with fail
              go_quiet (fail)
              have kl5 := kl4.drawN nq
              have ke5 := ke4.drawN nq
              have hRow5 := Kd.R_drewN hRow4 nq
              have bb5 := pw_below_drewN bb4 nq
              generalize w4.drewN nq = w5 at *
              clear c0 c1 f0 f1 lt hc4 kl4 ke4 hRow4 bb4 g4
              have d0 := kl5.at 0 _ rfl
              have d1 := ke5.at 0 _ rfl
              have d2 := kl5.free 0 _ rfl
              have d3 := ke5.free 0 _ rfl
              by_cases h20 : 20 < acc.length + 1
              · have h20' : (20 : Int) < (acc.length : Int) + 1 := by omega
                have hres : listRes (some (acc ++ [a])) = (5, []) := by rw [listRes, if_pos (by simp; omega)]
                generalize listRes (some (acc ++ [a])) = res at *
                subst hres
                go_wp2_with fail
                refine leaves_cons (f := 145) (args := #[.pointer (some ⟨w.heap.size, 0, none⟩), .pointer (some ⟨w.heap.size + 1, 0, none⟩)]) (by simp) (by simp [go_sem]) ?_
                refine (catch_idle _ _ _).mono ?_
                rintro e u' w'' ⟨rfl, rfl, rfl⟩
                simp only [Leaves, settle]
                exact ⟨.tuple #[.slice none 0 0, .int .i64 5], by simp [results, Tryd.results87, go_sem, *], _, rfl, Kd.R_nil _ _ _ _ _, by (iterate 2 (refine Below.setCell ?_ (by first | (simp; done) | (simp; omega) | omega) _)); exact bb5⟩
              · have h20' : ¬ (20 : Int) < (acc.length : Int) + 1 := by omega
                have hres : listRes (some (acc ++ [a])) = (0, acc ++ [a]) := by rw [listRes, if_neg (by simp; omega)]
                generalize listRes (some (acc ++ [a])) = res at *
                subst hres
                go_wp2_with fail
                refine leaves_cons (f := 145) (args := #[.pointer (some ⟨w.heap.size, 0, none⟩), .pointer (some ⟨w.heap.size + 1, 0, none⟩)]) (by simp) (by simp [go_sem]) ?_
                refine (catch_idle _ _ _).mono ?_
                rintro e u' w'' ⟨rfl, rfl, rfl⟩
                simp only [Leaves, settle]
                exact ⟨.tuple #[.slice A2 (acc.length + 1) cap2, .int .i64 0], by simp [results, Tryd.results87, go_sem, *], _, rfl, Kd.R_lower (R_elder (R_elder hRow5 (by first | (simp; done) | (simp; omega) | omega) _) (by first | (simp; done) | (simp; omega) | omega) _) (by omega), by (iterate 2 (refine Below.setCell ?_ (by first | (simp; done) | (simp; omega) | omega) _)); exact bb5⟩
end Go.Proofs.YtijdghplfhfpaaaDoor.H
