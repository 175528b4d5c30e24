/- Letters: the walk of the reference's MessageFault. -/
import Derived.Test.YtpeenmbonhijmaaDoorLetF
namespace Go.Proofs.YtpeenmbonhijmaaDoor.H
open Go.RowKit Go.Proofs.YtpeenmbonhijmaaDoorW.PrintWords Go.Proofs.YtpeenmbonhijmaaDoorW.PrintLast Go.Proofs.YtpeenmbonhijmaaDoorW.PrintMore Go.Proofs.YtpeenmbonhijmaaDoor.U
set_option linter.unusedVariables false
set_option linter.unusedSimpArgs false
set_option maxHeartbeats 1000000 in
set_option maxRecDepth 100000 in
theorem refMsg_calls (A : Option Addr) (c : Nat) (l : List AField) (body : ByteArray) (w : World) (hr : Kd.C kAField w A l.length l) (hl : (showL l).length ≤ 4000000000000) (hs : ∀ x ∈ l, x.name.size ≤ 1048576 ∧ x.value.size ≤ 1048576) (hb : body.size ≤ 1048576) :
    Calls Tryd.prog 28 #[.agg #[.slice A l.length c, .string body]] w fun e w' => e = .returned (.int .i64 (msgFault l body)) ∧ Below w.heap.size w w' := by
  have h63 := hr.2.1
  have h5 := fun h => msg_five (l := l) (body := body) h
  have h3 := fun h k hk hb => msg_three (l := l) (body := body) h k hk hb
  have ha := fun h hb => msg_all (l := l) (body := body) h hb
  generalize msgFault l body = r at *
  have HR := Lib.hid (And.intro h5 (And.intro h3 ha))
  clear h5 h3 ha
  have hsz := showT_size l body
  generalize showT l body = sh at *
  by_cases h30 : 30 < l.length
  · obtain rfl := HR.out.1 h30
    have hi : (30 : Int) < l.length := by omega
    go_enter Tryd.func28, Tryd.ntmps28
    go_wp2
    go_ret
    exact ⟨(by first | rfl | (simp; done) | (simp [*]; done) | (rw [if_pos (by omega)]; first | rfl | (simp; done)) | (rw [if_neg (by omega)]; first | rfl | (simp; done)) | (simp; omega)), (by repeat (first | exact Below.refl _ _ | apply below_alloc | apply pw_below_drewN | apply below_drew1 | (refine Below.setCell ?_ (by first | (simp; done) | (simp; omega) | omega) _) ))⟩
  · have hi : ¬ (30 : Int) < l.length := by omega
    go_enter Tryd.func28, Tryd.ntmps28
    go_wp2
    go_loopw [2, 3] (fun _ i wr => ∃ k : Nat, k ≤ l.length ∧ i = .int .i64 k ∧ (∀ j (hj : j < l.length), j < k → fieldOk l[j] = true) ∧ Below (w.heap.size + 1) (w.alloc (.cells #[.slice A l.length c, .string body] 41)) wr) (fun _ i _ => l.length - (intOf i).toNat)
    case atStart => exact ⟨0, Nat.zero_le _, rfl, fun j _ hj => absurd hj (Nat.not_lt_zero _), Below.refl _ _⟩
    case round =>
      obtain ⟨k, hk, rfl, hne, hB⟩ := hrel
      have hne := Lib.hid hne
      obtain ⟨hcb, hfb⟩ := bcellB hB
      have hBw : Below w.heap.size w wr := Below.trans (by repeat (first | exact Below.refl _ _ | apply below_alloc | apply pw_below_drewN | apply below_drew1 | (refine Below.setCell ?_ (by first | (simp; done) | (simp; omega) | omega) _) )) (Below.mono hB (by omega))
      have hzw : w.heap.size < wr.heap.size := by have := hB.size; simp at this; omega
      have m0 : wr.cell? ⟨w.heap.size, 0, none⟩ = some (.slice A l.length c) := by rw [hcb _ _ (by omega)]; simp
      have m1 : wr.cell? ⟨w.heap.size, 1, none⟩ = some (.string body) := by rw [hcb _ _ (by omega)]; simp
      clear hcb hfb
      by_cases hlt : k < l.length
      · obtain ⟨ad, e1, hx0, hxj⟩ := flat_at (Kd.C_below hr hBw) k hlt
        subst e1
        have q0 := hx0 _ rfl; have q1 := hxj 1 _ (by decide) rfl
        clear hx0 hxj
        have i0 : (0 : Int) ≤ (k : Int) := by omega
        have i1 : (k : Int) < (l.length : Int) := by omega
        have hbadk := fun h => HR.out.2.1 h30 k hlt h
        have hstep : fieldOk l[k] = true → ∀ j (hj : j < l.length), j < k + 1 → fieldOk l[j] = true := fun h j hj hjk => by
          rcases Nat.lt_or_ge j k with h' | h'
          · exact hne.out j hj h'
          · obtain rfl : j = k := by omega
            exact h
        obtain ⟨z1, z2⟩ := hs _ (List.getElem_mem hlt)
        generalize l[k] = x at *
        unfold fieldOk at hbadk hstep
        have HN := fun W => nameMay_calls x.name W (by omega)
        have HC : ∀ W, Calls Tryd.prog 67 #[.string x.value, .int .i64 0] W fun e w' => e = .returned (.int .i64 (lineV x.value 0)) ∧ W = w' := fun W => by simpa using lineEnd_calls x.value 0 W (by omega) (by omega)
        have HT := fun W => trimmed_calls x.value W (by omega)
        have hca := hasLine_ref x.value
        unfold trimOk at hbadk hstep
        generalize nameOk x.name = na at *
        generalize hasLine x.value = ca at *
        generalize lineV x.value 0 = lv at *
        generalize trimT x.value = tv at *
        have HN := Lib.hid HN
        have HC := Lib.hid HC
        have HT := Lib.hid HT
        cases na with
        | false =>
          obtain rfl := hbadk rfl
          clear hstep hbadk hca
          go_wp2_with fail
          go_quiet (first | (go_at_call 70; exact quiet_eq (HN.out _)) | (go_at_call 67; exact quiet_eq (HC.out _)) | (go_at_call 71; exact quiet_eq (HT.out _)))
          go_wp2_with fail
          go_ret
          exact ⟨(by first | rfl | (simp; done) | (simp [*]; done) | (rw [if_pos (by omega)]; first | rfl | (simp; done)) | (rw [if_neg (by omega)]; first | rfl | (simp; done)) | (simp; omega)), (by repeat (first | exact Below.refl _ _ | apply below_alloc | apply pw_below_drewN | apply below_drew1 | (refine Below.setCell ?_ (by first | (simp; done) | (simp; omega) | omega) _) | exact hBw))⟩
        | true =>
          cases ca with
          | true =>
            obtain rfl := hbadk rfl
            have hlv : 0 ≤ lv := by simpa using hca
            clear hstep hbadk hca
            go_wp2_with fail
            go_quiet (first | (go_at_call 70; exact quiet_eq (HN.out _)) | (go_at_call 67; exact quiet_eq (HC.out _)) | (go_at_call 71; exact quiet_eq (HT.out _)))
            go_wp2_with fail
            go_ret
            exact ⟨(by first | rfl | (simp; done) | (simp [*]; done) | (rw [if_pos (by omega)]; first | rfl | (simp; done)) | (rw [if_neg (by omega)]; first | rfl | (simp; done)) | (simp; omega)), (by repeat (first | exact Below.refl _ _ | apply below_alloc | apply pw_below_drewN | apply below_drew1 | (refine Below.setCell ?_ (by first | (simp; done) | (simp; omega) | omega) _) | exact hBw))⟩
          | false =>
            have hlv : ¬ 0 ≤ lv := by simpa using hca
            have hlv' : lv < 0 := by omega
            have hlvd : decide (0 ≤ lv) = false := by simpa using hlv
            clear hca
            cases hq : tv.toList == x.value.toList with
            | false =>
              obtain rfl := hbadk (by rw [hq]; rfl)
              clear hstep hbadk
              go_wp2_with fail
              go_quiet (first | (go_at_call 70; exact quiet_eq (HN.out _)) | (go_at_call 67; exact quiet_eq (HC.out _)) | (go_at_call 71; exact quiet_eq (HT.out _)))
              go_wp2_with fail
              go_ret
              exact ⟨(by first | rfl | (simp; done) | (simp [*]; done) | (rw [if_pos (by omega)]; first | rfl | (simp; done)) | (rw [if_neg (by omega)]; first | rfl | (simp; done)) | (simp; omega)), (by repeat (first | exact Below.refl _ _ | apply below_alloc | apply pw_below_drewN | apply below_drew1 | (refine Below.setCell ?_ (by first | (simp; done) | (simp; omega) | omega) _) | exact hBw))⟩
            | true =>
              have hstep := hstep (by rw [hq]; rfl)
              clear hbadk
              go_wp2_with fail
              go_quiet (first | (go_at_call 70; exact quiet_eq (HN.out _)) | (go_at_call 67; exact quiet_eq (HC.out _)) | (go_at_call 71; exact quiet_eq (HT.out _)))
              go_wp2_with fail
              go_roundw
              case rel => exact ⟨k + 1, by omega, by go_num, hstep, (by repeat (first | exact Below.refl _ _ | apply below_alloc | apply pw_below_drewN | apply below_drew1 | (refine Below.setCell ?_ (by first | (simp; done) | (simp; omega) | omega) _) | exact (Below.alloc hB (by omega) _)))⟩
              case measure => simp [intOf]; omega
      · obtain rfl : k = l.length := by omega
        have hv := HR.out.2.2 h30 (fun k hk => hne.out k hk hk)
        go_wp2_with fail
        go_loopw [5, 6] (fun n i wr2 => ∃ k : Nat, k ≤ l.length ∧ i = .int .i64 k ∧ n = .int .i64 (2 + body.size + (showL (l.take k)).length) ∧ Below (w.heap.size + 1) wr wr2) (fun _ i _ => l.length - (intOf i).toNat)
        case atStart => exact ⟨0, Nat.zero_le _, rfl, by simp [showL], Below.refl _ _⟩
        case round =>
          clear hk
          obtain ⟨k, hk, rfl, rfl, hB2⟩ := hrel
          obtain ⟨hcb, hfb⟩ := bcellB hB2
          have n0 : wr.cell? ⟨w.heap.size, 0, none⟩ = some (.slice A l.length c) := (hcb _ _ (by omega)).trans m0
          have hBw2 : Below w.heap.size w wr := Below.trans hBw (Below.mono hB2 (by omega))
          clear hcb hfb
          by_cases hlt : k < l.length
          · obtain ⟨ad, e1, hx0, hxj⟩ := flat_at (Kd.C_below hr hBw2) k hlt
            have hsn := showL_snoc l k hlt
            have hsl := showL_le l (k + 1)
            have hlen : (showL (l.take (k + 1))).length = (showL (l.take k)).length + l[k].name.size + l[k].value.size + 4 := by
              rw [hsn, List.length_append]; simp [lineT]; omega
            rw [hlen] at hsl
            subst e1
            have q0 := hx0 _ rfl; have q1 := hxj 1 _ (by decide) rfl
            clear hx0 hxj hsn
            have hlen := Lib.hid hlen
            generalize hN : (2 + (body.size : Int) + (showL (l.take k)).length) = N at *
            have i0 : (0 : Int) ≤ (k : Int) := by omega
            have i1 : (k : Int) < (l.length : Int) := by omega
            have b0 : 0 ≤ N := by omega
            have b1 : N + l[k].name.size + l[k].value.size + 4 ≤ 5000000000000 := by omega
            have hN := Lib.hid hN
            go_wp2
            go_quiet (fail)
            go_wp2
            go_roundw
            case rel => exact ⟨k + 1, by omega, by go_num, by rw [hlen.out, ← hN.out]; push_cast; congr 1; omega, (by repeat (first | exact Below.refl _ _ | apply below_alloc | apply pw_below_drewN | apply below_drew1 | (refine Below.setCell ?_ (by first | (simp; done) | (simp; omega) | omega) _) | exact hB2))⟩
            case measure => simp [intOf]; omega
          · obtain rfl : k = l.length := by omega
            have hsum : (2 : Int) + body.size + (showL (l.take l.length)).length = sh.size := by rw [hsz, List.take_length]; push_cast; omega
            rw [hsum] at *
            by_cases hz : 2000 < sh.size
            · rw [if_pos hz] at hv
              subst hv
              have hz' : (2000 : Int) < sh.size := by omega
              go_wp2_with fail
              go_ret
              exact ⟨(by first | rfl | (simp; done) | (simp [*]; done) | (rw [if_pos (by omega)]; first | rfl | (simp; done)) | (rw [if_neg (by omega)]; first | rfl | (simp; done)) | (simp; omega)), (by repeat (first | exact Below.refl _ _ | apply below_alloc | apply pw_below_drewN | apply below_drew1 | (refine Below.setCell ?_ (by first | (simp; done) | (simp; omega) | omega) _) | exact hBw2))⟩
            · rw [if_neg hz] at hv
              subst hv
              have hz' : ¬ (2000 : Int) < sh.size := by omega
              go_wp2_with fail
              go_ret
              exact ⟨(by first | rfl | (simp; done) | (simp [*]; done) | (rw [if_pos (by omega)]; first | rfl | (simp; done)) | (rw [if_neg (by omega)]; first | rfl | (simp; done)) | (simp; omega)), (by repeat (first | exact Below.refl _ _ | apply below_alloc | apply pw_below_drewN | apply below_drew1 | (refine Below.setCell ?_ (by first | (simp; done) | (simp; omega) | omega) _) | exact hBw2))⟩
end Go.Proofs.YtpeenmbonhijmaaDoor.H
