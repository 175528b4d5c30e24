/- Atoms with dots between: the walks of both sides. -/
import Derived.Test.YtijdghplfhfpaaaDoorWhoA
namespace Go.Proofs.YtijdghplfhfpaaaDoor.H
open Go.RowKit Go.Proofs.YtijdghplfhfpaaaDoorW.PrintWords Go.Proofs.YtijdghplfhfpaaaDoorW.PrintLast Go.Proofs.YtijdghplfhfpaaaDoorW.PrintMore Go.Proofs.YtijdghplfhfpaaaDoor.U
set_option linter.unusedVariables false
set_option linter.unusedSimpArgs false
theorem bytes_drop (s : ByteArray) (k : Nat) (h : k < s.size) : s.data.toList.drop k = s[k] :: s.data.toList.drop (k + 1) := by
  have hl : k < s.data.toList.length := by simpa using h
  rw [List.drop_eq_getElem_cons hl]
  rfl
set_option maxHeartbeats 1000000 in
set_option maxRecDepth 100000 in
theorem dottedMay_calls (s : ByteArray) (w : World) (hs : s.size ≤ 9223372036854775806) : Calls Tryd.prog 158 #[.string s] w fun e w' => e = .returned (.bool (scanB true s.data.toList)) ∧ Below w.heap.size w w' := by
  generalize hr : scanB true s.data.toList = r
  go_enter Tryd.func158, Tryd.ntmps158
  go_wp2
  go_loopw [3, 4] (fun v i wr => ∃ k : Nat, k ≤ s.size ∧ i = .int .i64 k ∧ ∃ b : Int, v = .int .u8 b ∧ scanB (decide (b = 46)) (s.data.toList.drop k) = r ∧ Below w.heap.size w wr) (fun _ i _ => s.size - (intOf i).toNat)
  case atStart => exact ⟨0, Nat.zero_le _, rfl, 46, rfl, hr, Below.refl _ _⟩
  case round =>
    clear hr
    obtain ⟨k, hk, rfl, b, rfl, hR, hB⟩ := hrel
    by_cases hlt : k < s.size
    · have hz := hB.size
      have b0 := (s[k]).toNat_lt
      rw [bytes_drop s k hlt] at hR
      simp only [scanB] at hR
      have he : s[k] = 46 ↔ s[k].toNat = 46 := ⟨fun h => by rw [h]; rfl, fun h => UInt8.toNat_inj.1 h⟩
      have HC := fun w => atomByte_calls s[k].toNat w (by omega) (by omega)
      have i1 : (k : Int) < (s.size : Int) := by omega
      by_cases hc : s[k].toNat = 46
      · rw [if_pos (he.2 hc)] at hR
        have q : ((s[k].toNat : Int) == 46) = true := by rw [hc]; rfl
        by_cases hb : b = 46
        · subst hb
          obtain rfl : false = r := by simpa using hR
          clear HC he hc
          go_wp2
          go_ret
          exact ⟨(by first | rfl | (simp; done) | (simp [*]; done) | (rw [if_pos (by omega)]; first | rfl | (simp; done)) | (rw [if_neg (by omega)]; first | rfl | (simp; done)) | (simp; omega)), (by repeat (first | exact Below.refl _ _ | apply below_alloc | apply pw_below_drewN | apply below_drew1 | (refine Below.setCell ?_ (by first | (simp; done) | (simp; omega) | omega) _) | (refine below_then ?_ (by first | (simp; done) | (simp; omega) | omega) hB)))⟩
        · have qb : (b == 46) = false := by simpa using hb
          have hR2 : scanB true (s.data.toList.drop (k + 1)) = r := by rw [← hR]; simp [hb]
          have hR2 := Lib.hid hR2
          clear HC he hR
          have hc := Lib.hid hc
          go_wp2
          go_roundw
          case rel => exact ⟨k + 1, by omega, by go_num, 46, by first | rfl | (rw [hc.out]; rfl), hR2.out, hB⟩
          case measure => simp [intOf]; omega
      · rw [if_neg (fun h => hc (he.1 h))] at hR
        have q : ((s[k].toNat : Int) == 46) = false := by simp; omega
        cases ha : atomB s[k].toNat with
        | false =>
          rw [ha] at HC hR
          have HC := Lib.hid HC
          obtain rfl : false = r := by simpa using hR
          clear he ha hR
          have hc := Lib.hid hc
          go_wp2_with (go_at_call 189; refine (HC.out _).mono ?_; rintro e w2 ⟨rfl, hb2⟩)
          go_ret
          exact ⟨(by first | rfl | (simp; done) | (simp [*]; done) | (rw [if_pos (by omega)]; first | rfl | (simp; done)) | (rw [if_neg (by omega)]; first | rfl | (simp; done)) | (simp; omega)), (by repeat (first | exact Below.refl _ _ | apply below_alloc | apply pw_below_drewN | apply below_drew1 | (refine Below.setCell ?_ (by first | (simp; done) | (simp; omega) | omega) _) | (refine below_then ?_ (by first | (simp; done) | (simp; omega) | omega) hb2) | (refine below_then ?_ (by first | (simp; done) | (simp; omega) | omega) hB)))⟩
        | true =>
          rw [ha] at HC hR
          have HC := Lib.hid HC
          have hR2 : scanB (decide ((s[k].toNat : Int) = 46)) (s.data.toList.drop (k + 1)) = r := by rw [← hR, show decide ((s[k].toNat : Int) = 46) = false from decide_eq_false (by omega)]; rfl
          have hR2 := Lib.hid hR2
          clear he ha hR
          have hc := Lib.hid hc
          go_wp2_with (go_at_call 189; refine (HC.out _).mono ?_; rintro e w2 ⟨rfl, hb2⟩)
          go_roundw
          case rel => exact ⟨k + 1, by omega, by go_num, _, rfl, hR2.out, (by repeat (first | exact Below.refl _ _ | apply below_alloc | apply pw_below_drewN | apply below_drew1 | (refine Below.setCell ?_ (by first | (simp; done) | (simp; omega) | omega) _) | (refine below_then ?_ (by first | (simp; done) | (simp; omega) | omega) hb2) | (refine below_then ?_ (by first | (simp; done) | (simp; omega) | omega) hB)))⟩
          case measure => simp [intOf]; omega
    · obtain rfl : k = s.size := by omega
      rw [List.drop_of_length_le (by simp)] at hR
      simp only [scanB] at hR
      have hR := Lib.hid hR
      go_wp2
      go_ret
      exact ⟨by rw [← hR.out]; by_cases h : b = 46 <;> simp [h], (by repeat (first | exact Below.refl _ _ | apply below_alloc | apply pw_below_drewN | apply below_drew1 | (refine Below.setCell ?_ (by first | (simp; done) | (simp; omega) | omega) _) | (refine below_then ?_ (by first | (simp; done) | (simp; omega) | omega) hB)))⟩
/-- A literal row of texts. -/
theorem lit_texts (l : List ByteArray) (w : World) (e : Nat) (h63 : l.length ≤ 9223372036854775807) : Kd.C Kd.string (w.alloc (.cells (l.map Value.string).toArray e)) (some ⟨w.heap.size, 0, none⟩) l.length l := by
  refine ⟨rfl, h63, fun _ => ⟨_, rfl, fun j x hj => ⟨[.string x], rfl, rfl, fun i u hi => ?_⟩⟩⟩
  match i, hi with
  | 0, hi =>
    obtain rfl : Value.string x = u := by simpa using hi
    rw [show j * Kd.string.sz + 0 = j from Nat.mul_one j, Go.WideShapes.add_plain, Nat.zero_add]
    simp [hj]
  | i + 1, hi => simp at hi
theorem split_calls (s : ByteArray) (m : Int) (w : World) (hs : s.size ≤ 1048576) (hm : w.cell? ⟨6, 0, none⟩ = some (.int .i64 m)) :
    Calls Tryd.prog 191 #[.string s, .string ⟨#[46]⟩] w fun e w' => ∃ l : List ByteArray, e = .returned (.slice (some ⟨w.heap.size, 0, none⟩) l.length l.length) ∧ l.length ≤ s.size + 1 ∧ (∀ p ∈ l, p.size ≤ s.size) ∧ (l.map fun x => x.data.toList) = Lib.split s.data.toList [46] ∧ w' = w.alloc (.cells (l.map Value.string).toArray 9) := by
  refine (Tryd.strings_Split s ⟨#[46]⟩ m w (by omega) hm (by decide)).mono fun e w' ⟨he, hw⟩ => ?_
  have hl := Lib.splitB_all ⟨#[46]⟩ (by decide) 0 (Lib.countB s ⟨#[46]⟩) s rfl
  refine ⟨_, by rw [he, hl], by rw [hl]; have := Lib.countB_le ⟨#[46]⟩ (by decide) s.size s (Nat.le_refl _); omega, fun p hp => ?_, ?_, hw⟩
  · have := split_len s.data.toList p.data.toList (by
      have := List.mem_map_of_mem (f := fun x : ByteArray => x.data.toList) hp
      rwa [Lib.splitB_data] at this)
    simpa using this
  · rw [Lib.splitB_data]
    rfl
set_option maxHeartbeats 1000000 in
set_option maxRecDepth 100000 in
theorem dotted_calls (s : ByteArray) (m : Int) (w : World) (hs : s.size ≤ 1048576) (hm : w.cell? ⟨6, 0, none⟩ = some (.int .i64 m)) :
    Calls Tryd.prog 152 #[.string s] w fun e w' => e = .returned (.bool (scanB true s.data.toList)) ∧ Below w.heap.size w w' := by
  rw [(scan_pieces s.data.toList).1]
  have HS := Lib.hid (fun w hm => split_calls s m w hs hm)
  generalize hr : (Lib.split s.data.toList [46]).all pieceB = r
  have hr := Lib.hid hr
  go_enter Tryd.func152, Tryd.ntmps152
  go_wp2_with (go_at_call 191; refine (HS.out _ hm).mono ?_; rintro e w1 ⟨l, rfl, hl, hps, hp, rfl⟩; have hr := hr.out; rw [← hp] at hr; have hr := Lib.hid hr; have hL := Lib.hid (lit_texts l w 9 (by omega)); clear HS hp)
  go_loopw [9] (fun i wr => ∃ k : Nat, k ≤ l.length ∧ i = .int .i64 k ∧ ((l.drop k).map fun x => x.data.toList).all pieceB = r ∧ Below (w.heap.size + 1) (w.alloc (.cells (l.map Value.string).toArray 9)) wr) (fun i _ => l.length - (intOf i).toNat)
  case atStart => exact ⟨0, Nat.zero_le _, rfl, hr.out, Below.refl _ _⟩
  case round =>
    obtain ⟨k, hk, rfl, hR, hB⟩ := hrel
    by_cases hlt : k < l.length
    · have hz := hB.size
      have hC := Kd.C_below hL.out (by simpa using hB)
      obtain ⟨ad, e1, hx⟩ := string_at hC k hlt
      obtain rfl := (Option.some.inj e1).symm
      rw [Go.WideShapes.add_plain, Nat.zero_add] at hx
      have i1 : (k : Int) < (l.length : Int) := by omega
      rw [List.drop_eq_getElem_cons hlt] at hR
      simp only [List.map_cons, List.all_cons] at hR
      have hps : l[k].size ≤ 1048576 := Nat.le_trans (hps _ (List.getElem_mem _)) hs
      generalize l[k] = p at *
      have hp0 : p.data.toList.isEmpty = decide (p = ⟨#[]⟩) := by
        by_cases h : p = ⟨#[]⟩
        · subst h; rfl
        · have : p.data.toList ≠ [] := fun e => h (by obtain ⟨⟨q⟩⟩ := p; simp at e; rw [e])
          simp [h]
          exact fun e => this (by rw [e])
      by_cases hpe : p = ⟨#[]⟩
      · subst hpe
        obtain rfl : false = r := by simpa [pieceB] using hR
        go_wp2
        go_ret
        exact ⟨(by first | rfl | (simp; done) | (simp [*]; done) | (rw [if_pos (by omega)]; first | rfl | (simp; done)) | (rw [if_neg (by omega)]; first | rfl | (simp; done)) | (simp; omega)), (by repeat (first | exact Below.refl _ _ | apply below_alloc | apply pw_below_drewN | apply below_drew1 | (refine Below.setCell ?_ (by first | (simp; done) | (simp; omega) | omega) _) | (refine Below.trans ?_ (Below.mono hB (by first | (simp; done) | (simp; omega) | omega)))))⟩
      · have q := lit_no (l := []) hpe
        have hR2 : (p.data.toList.all fun c => atomB c.toNat) = false ∧ r = false ∨ ((p.data.toList.all fun c => atomB c.toNat) = true ∧ ((l.drop (k + 1)).map fun x => x.data.toList).all pieceB = r) := by
          cases h : p.data.toList.all fun c => atomB c.toNat with
          | false => exact .inl ⟨rfl, by rw [← hR, pieceB, h]; simp⟩
          | true => refine .inr ⟨rfl, ?_⟩; rw [← hR, pieceB, hp0, h]; simp [hpe]
        clear hR hp0
        have hpe := Lib.hid hpe
        have hR := Lib.hid hR2
        clear hR2
        go_wp2
        go_loopw [17] (fun i wr => ∃ j : Nat, j ≤ p.size ∧ i = .int .i64 j ∧ ((p.data.toList.drop j).all fun c => atomB c.toNat) = (p.data.toList.all fun c => atomB c.toNat) ∧ Below (w.heap.size + 1) (w.alloc (.cells (l.map Value.string).toArray 9)) wr) (fun i _ => p.size - (intOf i).toNat)
        case atStart => exact ⟨0, Nat.zero_le _, rfl, rfl, hB⟩
        case round =>
          clear hB
          obtain ⟨j, hj, rfl, hJ, hB⟩ := hrel
          have hz := hB.size
          by_cases hjl : j < p.size
          · have b0 := (p[j]).toNat_lt
            rw [bytes_drop p j hjl] at hJ
            simp only [List.all_cons] at hJ
            have HC := fun w => atom_calls p[j].toNat w (by omega) (by omega)
            have i2 : (j : Int) < (p.size : Int) := by omega
            cases ha : atomB p[j].toNat with
            | false =>
              rw [ha] at HC hJ
              have HC := Lib.hid HC
              have hf : (p.data.toList.all fun c => atomB c.toNat) = false := by rw [← hJ]; rfl
              obtain rfl : r = false := by
                rcases hR.out with ⟨_, h⟩ | ⟨h, _⟩
                · exact h
                · rw [hf] at h; cases h
              clear hJ hf
              go_wp2_with (go_at_call 192; refine (HC.out _).mono ?_; rintro e w2 ⟨rfl, rfl⟩)
              go_ret
              exact ⟨(by first | rfl | (simp; done) | (simp [*]; done) | (rw [if_pos (by omega)]; first | rfl | (simp; done)) | (rw [if_neg (by omega)]; first | rfl | (simp; done)) | (simp; omega)), (by repeat (first | exact Below.refl _ _ | apply below_alloc | apply pw_below_drewN | apply below_drew1 | (refine Below.setCell ?_ (by first | (simp; done) | (simp; omega) | omega) _) | (refine Below.trans ?_ (Below.mono hB (by first | (simp; done) | (simp; omega) | omega)))))⟩
            | true =>
              rw [ha] at HC hJ
              have HC := Lib.hid HC
              have hJ := Lib.hid (show _ from (Bool.true_and _).symm.trans hJ)
              go_wp2_with (go_at_call 192; refine (HC.out _).mono ?_; rintro e w2 ⟨rfl, rfl⟩)
              go_roundw
              case rel => exact ⟨j + 1, by omega, by go_num, hJ.out, hB⟩
              case measure => simp [intOf]; omega
          · obtain rfl : j = p.size := by omega
            rw [List.drop_of_length_le (by simp)] at hJ
            have hR2 : ((l.drop (k + 1)).map fun x => x.data.toList).all pieceB = r := by
              rcases hR.out with ⟨h, _⟩ | ⟨_, h⟩
              · rw [h] at hJ; cases hJ
              · exact h
            have hR2 := Lib.hid hR2
            clear hJ
            go_wp2
            go_roundw
            case rel => exact ⟨k + 1, by omega, by go_num, hR2.out, hB⟩
            case measure => simp [intOf]; omega
    · obtain rfl : k = l.length := by omega
      rw [List.drop_of_length_le (Nat.le_refl _)] at hR
      have hR := Lib.hid hR
      go_wp2
      go_ret
      exact ⟨by rw [← hR.out]; rfl, (by repeat (first | exact Below.refl _ _ | apply below_alloc | apply pw_below_drewN | apply below_drew1 | (refine Below.setCell ?_ (by first | (simp; done) | (simp; omega) | omega) _) | (refine Below.trans ?_ (Below.mono hB (by first | (simp; done) | (simp; omega) | omega)))))⟩
end Go.Proofs.YtijdghplfhfpaaaDoor.H
