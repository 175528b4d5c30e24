/- Joined tokens: the reference's TokensJoined: the walk. -/
import Derived.Test.YtpeenmbonhijmaaDoorJoinD
namespace Go.Proofs.YtpeenmbonhijmaaDoor.H
open Go.RowKit Go.Proofs.YtpeenmbonhijmaaDoorW.PrintWords Go.Proofs.YtpeenmbonhijmaaDoorW.PrintLast Go.Proofs.YtpeenmbonhijmaaDoorW.PrintMore Go.Proofs.YtpeenmbonhijmaaDoor.U
set_option linter.unusedVariables false
set_option linter.unusedSimpArgs false
set_option maxHeartbeats 4000000 in
set_option maxRecDepth 100000 in
theorem joined_calls (A : Option Addr) (c : Nat) (l : List AToken) (w : World) (hr : Kd.C kAToken w A l.length l) (hs : ∀ t ∈ l, t.text.size ≤ 1048576) :
    Calls Tryd.prog 43 #[.slice A l.length c] w fun e w' => e = .returned (.tuple #[.string (joinV l).1, .int .i64 (joinV l).2]) ∧ Below w.heap.size w w' := by
  have h63 := hr.2.1
  by_cases h400 : 400 < l.length
  · rw [show joinV l = (⟨#[]⟩, 5) by rw [joinV, if_pos h400]]
    have hi : (400 : Int) < l.length := by omega
    go_enter Tryd.func43, Tryd.ntmps43
    go_wp2_with fail
    go_ret2
    exact ⟨rfl, (by repeat (first | exact Below.refl _ _ | apply below_alloc | apply pw_below_drewN | apply below_drew1 | (refine Below.setCell ?_ (by first | (simp; done) | (simp; omega) | omega) _) ))⟩
  · have hi : ¬ (400 : Int) < l.length := by omega
    rw [show joinV l = joinGo l ⟨#[]⟩ by rw [joinV, if_neg h400]]
    generalize hR : joinGo l ⟨#[]⟩ = R
    obtain ⟨r1, r2⟩ := R
    go_enter Tryd.func43, Tryd.ntmps43
    go_wp2_with fail
    go_loopw [4, 5] (fun v i wr => ∃ (k : Nat) (s : ByteArray), k ≤ l.length ∧ v = .string s ∧ i = .int .i64 k ∧ joinGo (l.drop k) s = (r1, r2) ∧ s.size ≤ 2000 ∧ Below w.heap.size w wr) (fun _ i _ => l.length - (intOf i).toNat)
    case atStart => exact ⟨0, ⟨#[]⟩, Nat.zero_le _, rfl, rfl, by rw [List.drop_zero]; exact hR, by decide, Below.refl _ _⟩
    case round =>
      clear hR
      obtain ⟨k, s, hk, rfl, rfl, hR, hz, hB⟩ := hrel
      have hzw := hB.size
      by_cases hlt : k < l.length
      · have hCk := fun (W : World) (h : Below w.heap.size w W) => flat_at (Kd.C_below hr h) k hlt
        obtain ⟨ad, e1, hx0, hxj⟩ := hCk wr hB
        subst e1
        have q0 := hx0 _ rfl; have q1 := hxj 1 _ (by decide) rfl; have q2 := hxj 2 _ (by decide) rfl
        clear hx0 hxj
        rw [List.drop_eq_getElem_cons hlt, joinGo] at hR
        have z1 := hs _ (List.getElem_mem hlt)
        generalize l[k] = t at *
        obtain ⟨tk, tt, tn⟩ := t
        simp only at q0 q1 q2 hR z1
        have i0 : (0 : Int) ≤ (k : Int) := by omega
        have i1 : (k : Int) < (l.length : Int) := by omega
        have HC := fun w => fault_calls tk tt tn w (by omega)
        have hnum := fun h : tk = 3 => fault_nb (s := tt) (n := tn)
        have hTz := tokT_size tk tt tn z1
        by_cases hf : tokFault tk tt tn = 0
        · rw [if_pos hf] at hR
          rw [hf] at HC
          have HC := Lib.hid HC
          have hn3 : tk = 3 → 0 ≤ tn ∧ tn ≤ 2147483647 := fun h => hnum h (by subst h; exact hf)
          have hTz := hTz (fun h => (hn3 h).2)
          have HT := Lib.hid (fun W => tokenText_calls tk tt tn W z1 hn3)
          clear hf hnum hn3
          generalize tokT tk tt tn = T at *
          have d1 : (s.size : Int) + T.size ≤ 9223372036854775807 := by omega
          have d2 : (s.size : Int) + T.size + 1 ≤ 9223372036854775807 := by omega
          go_wp2_with fail
          refine (HC.out _).mono ?_
          rintro e w1 ⟨rfl, hb1⟩
          have p0 := (hb1.cell (lt_of_cell' q0)).trans q0
          have p1 := (hb1.cell (lt_of_cell' q1)).trans q1
          have p2 := (hb1.cell (lt_of_cell' q2)).trans q2
          go_wp2_with fail
          refine (HT.out _).mono ?_
          rintro e w2 ⟨rfl, hb2⟩
          have hz1_ := hb1.size
          have hbb : Below w.heap.size w w2 := (by repeat (first | exact Below.refl _ _ | apply below_alloc | apply pw_below_drewN | apply below_drew1 | (refine Below.setCell ?_ (by first | (simp; done) | (simp; omega) | omega) _) | (refine Below.trans ?_ (Below.mono hb2 (by first | (simp; done) | (simp; omega) | omega))) | (refine Below.trans ?_ (Below.mono hb1 (by first | (simp; done) | (simp; omega) | omega))) | exact hB))
          have hz2 : (s ++ T ++ (⟨#[32]⟩ : ByteArray)).size = s.size + T.size + 1 := by rw [ByteArray.size_append, ByteArray.size_append]; rfl
          by_cases hbig : 2000 < (s ++ T ++ (⟨#[32]⟩ : ByteArray)).size
          · rw [if_pos hbig] at hR
            obtain ⟨rfl, rfl⟩ := Prod.mk.inj hR
            clear hR
            have hbig' : (2000 : Int) < (s.size : Int) + T.size + 1 := by omega
            go_upto_region 11 with fail
            clear d1 d2
            go_wp2_with fail
            go_ret2
            exact ⟨rfl, hbb⟩
          · rw [if_neg hbig] at hR
            have hR := Lib.hid hR
            have hbig' : ¬ (2000 : Int) < (s.size : Int) + T.size + 1 := by omega
            clear hz2
            go_upto_region 11 with fail
            clear d1 d2
            go_wp2_with fail
            go_roundw
            case rel => exact ⟨k + 1, s ++ T ++ (⟨#[32]⟩ : ByteArray), by omega, rfl, by go_num, hR.out, by omega, hbb⟩
            case measure => simp [intOf]; omega
        · rw [if_neg hf] at hR
          obtain ⟨rfl, rfl⟩ := Prod.mk.inj hR
          clear hR hnum
          have e1 : (tokFault tk tt tn != 0) = true := by rw [bne_iff_ne]; exact hf
          clear hf
          generalize hfv : tokFault tk tt tn = f at *
          have hfv := Lib.hid hfv
          have HC := Lib.hid HC
          go_wp2_with fail
          refine (HC.out _).mono ?_
          rintro e w1 ⟨rfl, hb1⟩
          go_wp2_with fail
          go_ret2
          exact ⟨by rw [hfv.out]; rfl, (by repeat (first | exact Below.refl _ _ | apply below_alloc | apply pw_below_drewN | apply below_drew1 | (refine Below.setCell ?_ (by first | (simp; done) | (simp; omega) | omega) _) | (refine Below.trans ?_ (Below.mono hb1 (by first | (simp; done) | (simp; omega) | omega))) | exact hB))⟩
      · obtain rfl : k = l.length := by omega
        rw [List.drop_eq_nil_of_le (Nat.le_refl _), joinGo] at hR
        obtain ⟨rfl, rfl⟩ := Prod.mk.inj hR
        go_wp2_with fail
        go_ret2
        exact ⟨rfl, hB⟩
attribute [local go_sem high] eqAToken
set_option maxHeartbeats 1000000 in
set_option maxRecDepth 100000 in
theorem tokens_calls (A : Option Addr) (c : Nat) (l : List AToken) (w : World) (hr : Kd.C kAToken w A l.length l) (hl : l.length * 32 ≤ 140737488355328) :
    Calls Tryd.prog 41 #[.slice A l.length c] w fun e w' => ∃ A1 c1, e = .returned (.slice A1 l.length c1) ∧ Kd.R kAToken 124 w' w.heap.size (fun _ => True) (.slice A1 l.length c1) l ∧ Below w.heap.size w w' := by
  go_enter Tryd.func41, Tryd.ntmps41
  go_wp2_with (at_builtin; refine clone_list rowAToken rfl _ _ rfl l A c rfl rfl hr hl ?_; intro A1 c1 w1 hR hb1)
  go_ret
  exact ⟨A1, c1, rfl, hR, hb1⟩
attribute [local go_sem high] eqbAToken_self
set_option maxHeartbeats 1000000 in
set_option maxRecDepth 100000 in
theorem sameTokens_calls (A : Option Addr) (c : Nat) (A2 : Option Addr) (c2 : Nat) (l : List AToken) (w : World) (hr : Kd.C kAToken w A l.length l) (hr2 : Kd.C kAToken w A2 l.length l) :
    Calls Tryd.prog 44 #[.slice A l.length c, .slice A2 l.length c2] w fun e w' => e = .returned (.bool true) ∧ Below w.heap.size w w' := by
  have h63 := hr.2.1
  go_enter Tryd.func44, Tryd.ntmps44
  go_wp2
  go_loopw [5] (fun i wr => ∃ k : Nat, k ≤ l.length ∧ i = .int .i64 k ∧ ∃ q, wr = w.drewN q) (fun i _ => l.length - (intOf i).toNat)
  case atStart => exact ⟨0, Nat.zero_le _, rfl, 0, rfl⟩
  case round =>
    obtain ⟨k, hk, rfl, q, rfl⟩ := hrel
    by_cases hlt : k < l.length
    · obtain ⟨ad, e1, hx0, hxj⟩ := flat_at hr k hlt
      obtain ⟨ad2, e2, hy0, hyj⟩ := flat_at hr2 k hlt
      subst e1 e2
      have q0 := hx0 _ rfl; have q1 := hxj 1 _ (by decide) rfl; have q2 := hxj 2 _ (by decide) rfl
      have r0 := hy0 _ rfl; have r1 := hyj 1 _ (by decide) rfl; have r2 := hyj 2 _ (by decide) rfl
      clear hx0 hxj hy0 hyj
      have i0 : (0 : Int) ≤ (k : Int) := by omega
      have i1 : (k : Int) < (l.length : Int) := by omega
      go_wp2
      go_quiet (fail)
      go_wp2
      go_roundw
      case rel => exact ⟨k + 1, by omega, by go_num, _, rfl⟩
      case measure => simp [intOf]; omega
    · obtain rfl : k = l.length := by omega
      go_wp2
      go_ret
      exact ⟨rfl, by first | exact Below.refl _ _ | exact pw_below_drewN (Below.refl _ _) _⟩
end Go.Proofs.YtpeenmbonhijmaaDoor.H
