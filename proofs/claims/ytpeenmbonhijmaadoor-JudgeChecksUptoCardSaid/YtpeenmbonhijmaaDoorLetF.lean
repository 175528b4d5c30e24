/- Letters: the walks of letter.Check and the reference's MessageFault. -/
import Derived.Test.YtpeenmbonhijmaaDoorLetC
import Derived.Test.YtpeenmbonhijmaaDoorLetE
import Derived.Shelf.Strings.SlTrimAscii
namespace Go.Proofs.YtpeenmbonhijmaaDoor.H
open Go.RowKit Go.Proofs.YtpeenmbonhijmaaDoorW.PrintWords Go.Proofs.YtpeenmbonhijmaaDoorW.PrintLast Go.Proofs.YtpeenmbonhijmaaDoorW.PrintMore Go.Proofs.YtpeenmbonhijmaaDoor.U
set_option linter.unusedVariables false
set_option linter.unusedSimpArgs false
set_option maxHeartbeats 1000000 in
set_option maxRecDepth 100000 in
theorem trim_calls (s : ByteArray) (w : World) (hs : s.size ≤ 1048576) : Calls Tryd.prog 65 #[.string s, .string ⟨#[32, 9]⟩] w fun e w' => e = .returned (.string (trimT s)) ∧ Below w.heap.size w w' := by
  rw [← trimT_lib]
  exact Any.strings_Trim_laid Tryd.lays160 (by kernel_rfl) s ⟨#[32, 9]⟩ w (by omega) (by decide) (ascii_of_all (by decide))
def hasLine (s : ByteArray) : Bool := Lib.contains s.data.toList crlf
theorem hasLine_ref (s : ByteArray) : decide (0 ≤ lineV s 0) = hasLine s := by
  rw [hasLine, Lib.contains, lineV, List.drop_zero]
  have := Lib.index_ge s.data.toList crlf
  by_cases h : Lib.index s.data.toList crlf < 0
  · rw [if_pos h]; simp; omega
  · rw [if_neg h]; simp
theorem contains_calls (s : ByteArray) (m : Int) (w : World) (hs : s.size ≤ 1048576) (hm : w.cell? ⟨0, 0, none⟩ = some (.int .i64 m)) : Calls Tryd.prog 72 #[.string s, .string ⟨#[13, 10]⟩] w fun e w' => e = .returned (.bool (hasLine s)) ∧ w = w' :=
  (Tryd.strings_Contains s ⟨#[13, 10]⟩ m w (by omega) hm).mono fun e w' h => ⟨h.1, h.2.symm⟩
def trimOk (s : ByteArray) : Bool := (trimT s).toList == s.toList
def fieldOk (f : AField) : Bool := nameOk f.name && !hasLine f.value && trimOk f.value
def msgFault (l : List AField) (body : ByteArray) : Int := if 30 < l.length then 5 else if l.all fieldOk = true then if 2000 < (showT l body).size then 1 else 0 else 3
theorem msg_five {l : List AField} {body : ByteArray} (h : 30 < l.length) : msgFault l body = 5 := if_pos h
theorem msg_three {l : List AField} {body : ByteArray} (h : ¬ 30 < l.length) (k : Nat) (hk : k < l.length) (hb : fieldOk l[k] = false) : msgFault l body = 3 := by
  rw [msgFault, if_neg h, if_neg]
  rw [List.all_eq_true]
  intro h2
  have := h2 _ (List.getElem_mem hk)
  rw [hb] at this; cases this
theorem msg_all {l : List AField} {body : ByteArray} (h : ¬ 30 < l.length) (hb : ∀ k (hk : k < l.length), fieldOk l[k] = true) : msgFault l body = if 2000 < (showT l body).size then 1 else 0 := by
  rw [msgFault, if_neg h, if_pos]
  rw [List.all_eq_true]
  intro x hx
  obtain ⟨i, hi, rfl⟩ := List.mem_iff_getElem.1 hx
  exact hb i hi
theorem showT_size (l : List AField) (body : ByteArray) : (showT l body).size = (showL l).length + 2 + body.size := by
  show (showL l ++ [13, 10] ++ body.data.toList).toArray.size = _
  rw [List.size_toArray, List.length_append, List.length_append]
  simp
set_option maxHeartbeats 1000000 in
set_option maxRecDepth 100000 in
theorem letCheck_calls (A : Option Addr) (c : Nat) (l : List AField) (body : ByteArray) (m : Int) (w : World) (hr : Kd.C kAField w A l.length l) (hl : (showL l).length ≤ 4000000000000) (hs : ∀ x ∈ l, x.name.size ≤ 1048576 ∧ x.value.size ≤ 1048576) (hb : body.size ≤ 1048576) (hm : w.cell? ⟨0, 0, none⟩ = some (.int .i64 m)) (hg : 0 < w.heap.size) :
    Calls Tryd.prog 27 #[.agg #[.slice A l.length c, .string body]] w fun e w' => e = .returned (.int .i64 (msgFault l body)) ∧ Below w.heap.size w w' := by
  have h63 := hr.2.1
  have hS := fun w hr => show_calls A c l body w hr hl hs hb
  have h5 := fun h => msg_five (l := l) (body := body) h
  have h3 := fun h k hk hb => msg_three (l := l) (body := body) h k hk hb
  have ha := fun h hb => msg_all (l := l) (body := body) h hb
  generalize msgFault l body = r at *
  have HR := Lib.hid (And.intro h5 (And.intro h3 ha))
  clear h5 h3 ha
  generalize showT l body = sh at *
  have hS := Lib.hid hS
  by_cases h30 : 30 < l.length
  · obtain rfl := HR.out.1 h30
    have hi : (30 : Int) < l.length := by omega
    go_enter Tryd.func27, Tryd.ntmps27
    go_wp2
    go_ret
    exact ⟨(by first | rfl | (simp; done) | (simp [*]; done) | (rw [if_pos (by omega)]; first | rfl | (simp; done)) | (rw [if_neg (by omega)]; first | rfl | (simp; done)) | (simp; omega)), (by repeat (first | exact Below.refl _ _ | apply below_alloc | apply pw_below_drewN | apply below_drew1 | (refine Below.setCell ?_ (by first | (simp; done) | (simp; omega) | omega) _) ))⟩
  · have hi : ¬ (30 : Int) < l.length := by omega
    go_enter Tryd.func27, Tryd.ntmps27
    go_wp2
    go_loopw [13] (fun i wr => ∃ k : Nat, k ≤ l.length ∧ i = .int .i64 k ∧ (∀ j (hj : j < l.length), j < k → fieldOk l[j] = true) ∧ Below (w.heap.size + 1) (w.alloc (.cells #[.slice A l.length c, .string body] 41)) wr) (fun i _ => l.length - (intOf i).toNat)
    case atStart => exact ⟨0, Nat.zero_le _, rfl, fun j _ hj => absurd hj (Nat.not_lt_zero _), Below.refl _ _⟩
    case round =>
      obtain ⟨k, hk, rfl, hne, hB⟩ := hrel
      have hne := Lib.hid hne
      obtain ⟨hcb, hfb⟩ := bcellB hB
      have hBw : Below w.heap.size w wr := Below.trans (by repeat (first | exact Below.refl _ _ | apply below_alloc | apply pw_below_drewN | apply below_drew1 | (refine Below.setCell ?_ (by first | (simp; done) | (simp; omega) | omega) _) )) (Below.mono hB (by omega))
      have hzw : w.heap.size < wr.heap.size := by have := hB.size; simp at this; omega
      have m0 : wr.cell? ⟨w.heap.size, 0, none⟩ = some (.slice A l.length c) := by rw [hcb _ _ (by omega)]; simp
      have m1 : wr.cell? ⟨w.heap.size, 1, none⟩ = some (.string body) := by rw [hcb _ _ (by omega)]; simp
      clear hcb hfb
      by_cases hlt : k < l.length
      · obtain ⟨ad, e1, hx0, hxj⟩ := flat_at (Kd.C_below hr hBw) k hlt
        subst e1
        have q0 := hx0 _ rfl; have q1 := hxj 1 _ (by decide) rfl
        clear hx0 hxj
        have i0 : (0 : Int) ≤ (k : Int) := by omega
        have i1 : (k : Int) < (l.length : Int) := by omega
        have hbadk := fun h => HR.out.2.1 h30 k hlt h
        have hstep : fieldOk l[k] = true → ∀ j (hj : j < l.length), j < k + 1 → fieldOk l[j] = true := fun h j hj hjk => by
          rcases Nat.lt_or_ge j k with h' | h'
          · exact hne.out j hj h'
          · obtain rfl : j = k := by omega
            exact h
        obtain ⟨z1, z2⟩ := hs _ (List.getElem_mem hlt)
        generalize l[k] = x at *
        unfold fieldOk at hbadk hstep
        have HN := fun W => name_calls x.name W (by omega)
        have HC := fun W hm => contains_calls x.value m W z2 hm
        have HT := fun W => trim_calls x.value W z2
        have hMd := fun n => (show ((wr.alloc (.cells #[.string x.name, .string x.value] 100)).drewN n).cell? ⟨0, 0, none⟩ = some (.int .i64 m) from cell_below (B := w.heap.size) (by repeat (first | exact Below.refl _ _ | apply below_alloc | apply pw_below_drewN | apply below_drew1 | (refine Below.setCell ?_ (by first | (simp; done) | (simp; omega) | omega) _) | exact hBw)) hm hg)
        have hMr := (show (wr.alloc (.cells #[.string x.name, .string x.value] 100)).drew.cell? ⟨0, 0, none⟩ = some (.int .i64 m) from cell_below (B := w.heap.size) (by repeat (first | exact Below.refl _ _ | apply below_alloc | apply pw_below_drewN | apply below_drew1 | (refine Below.setCell ?_ (by first | (simp; done) | (simp; omega) | omega) _) | exact hBw)) hm hg)
        unfold trimOk at hbadk hstep
        generalize nameOk x.name = na at *
        generalize hasLine x.value = ca at *
        generalize trimT x.value = tv at *
        have HN := Lib.hid HN
        have HC := Lib.hid HC
        have HT := Lib.hid HT
        cases na with
        | false =>
          obtain rfl := hbadk rfl
          clear hstep hbadk
          go_wp2_with fail
          go_quiet ((go_at_call 66; exact quiet_eq (HN.out _)))
          go_wp2_with fail
          go_ret
          exact ⟨(by first | rfl | (simp; done) | (simp [*]; done) | (rw [if_pos (by omega)]; first | rfl | (simp; done)) | (rw [if_neg (by omega)]; first | rfl | (simp; done)) | (simp; omega)), (by repeat (first | exact Below.refl _ _ | apply below_alloc | apply pw_below_drewN | apply below_drew1 | (refine Below.setCell ?_ (by first | (simp; done) | (simp; omega) | omega) _) | exact hBw))⟩
        | true =>
          cases ca with
          | true =>
            obtain rfl := hbadk rfl
            clear hstep hbadk
            go_wp2_with fail
            go_quiet (first | (go_at_call 66; exact quiet_eq (HN.out _)) | (go_at_call 72; exact quiet_eq (HC.out _ (hMd _))))
            go_wp2_with fail
            go_ret
            exact ⟨(by first | rfl | (simp; done) | (simp [*]; done) | (rw [if_pos (by omega)]; first | rfl | (simp; done)) | (rw [if_neg (by omega)]; first | rfl | (simp; done)) | (simp; omega)), (by repeat (first | exact Below.refl _ _ | apply below_alloc | apply pw_below_drewN | apply below_drew1 | (refine Below.setCell ?_ (by first | (simp; done) | (simp; omega) | omega) _) | exact hBw))⟩
          | false =>
            cases hq : tv.toList == x.value.toList with
            | false =>
              obtain rfl := hbadk (by rw [hq]; rfl)
              clear hstep hbadk
              go_wp2_with fail
              go_region_held3 (fun w' => w'.cell? ⟨wr.heap.size, 0, none⟩ = some (.string x.name) ∧ w'.cell? ⟨wr.heap.size, 1, none⟩ = some (.string x.value))
                (first | exact ⟨s0, s1⟩ | go_keep)
                (first
                  | (go_at_call 66; refine (HN.out _).mono ?_; rintro e w2 ⟨rfl, rfl⟩)
                  | (go_at_call 72; refine (HC.out _ hMr).mono ?_; rintro e w2 ⟨rfl, rfl⟩)
                  | (go_at_call 65; refine (HT.out _).mono ?_; rintro e w3 ⟨rfl, hb3⟩; obtain ⟨hc3, hf3⟩ := bcell hb3; have s0 : w3.cell? ⟨wr.heap.size, 0, none⟩ = some (.string x.name) := (by rw [hc3 _ _ (by simp)]; simp); have s1 : w3.cell? ⟨wr.heap.size, 1, none⟩ = some (.string x.value) := (by rw [hc3 _ _ (by simp)]; simp)))
              go_wp2_with fail
              go_ret
              exact ⟨(by first | rfl | (simp; done) | (simp [*]; done) | (rw [if_pos (by omega)]; first | rfl | (simp; done)) | (rw [if_neg (by omega)]; first | rfl | (simp; done)) | (simp; omega)), (by repeat (first | exact Below.refl _ _ | apply below_alloc | apply pw_below_drewN | apply below_drew1 | (refine Below.setCell ?_ (by first | (simp; done) | (simp; omega) | omega) _) | (refine below_then ?_ (by first | (simp; done) | (simp; omega) | omega) hb3) | exact hBw))⟩
            | true =>
              have hstep := hstep (by rw [hq]; rfl)
              clear hbadk
              go_wp2_with fail
              go_region_held3 (fun w' => w'.cell? ⟨wr.heap.size, 0, none⟩ = some (.string x.name) ∧ w'.cell? ⟨wr.heap.size, 1, none⟩ = some (.string x.value))
                (first | exact ⟨s0, s1⟩ | go_keep)
                (first
                  | (go_at_call 66; refine (HN.out _).mono ?_; rintro e w2 ⟨rfl, rfl⟩)
                  | (go_at_call 72; refine (HC.out _ hMr).mono ?_; rintro e w2 ⟨rfl, rfl⟩)
                  | (go_at_call 65; refine (HT.out _).mono ?_; rintro e w3 ⟨rfl, hb3⟩; obtain ⟨hc3, hf3⟩ := bcell hb3; have s0 : w3.cell? ⟨wr.heap.size, 0, none⟩ = some (.string x.name) := (by rw [hc3 _ _ (by simp)]; simp); have s1 : w3.cell? ⟨wr.heap.size, 1, none⟩ = some (.string x.value) := (by rw [hc3 _ _ (by simp)]; simp)))
              go_wp2_with fail
              go_roundw
              case rel => exact ⟨k + 1, by omega, by go_num, hstep, (by repeat (first | exact Below.refl _ _ | apply below_alloc | apply pw_below_drewN | apply below_drew1 | (refine Below.setCell ?_ (by first | (simp; done) | (simp; omega) | omega) _) | (refine Below.trans ?_ (Below.mono hb3 (by first | (simp; done) | (simp; omega) | omega))) | exact (Below.alloc hB (by omega) _)))⟩
              case measure => simp [intOf]; omega
      · obtain rfl : k = l.length := by omega
        have hv := HR.out.2.2 h30 (fun k hk => hne.out k hk hk)
        go_wp2_with fail
        refine (hS.out _ (Kd.C_below hr hBw)).mono ?_
        rintro e w1 ⟨rfl, hb1⟩
        by_cases hz : 2000 < sh.size
        · rw [if_pos hz] at hv
          subst hv
          have hz' : (2000 : Int) < sh.size := by omega
          go_wp2_with fail
          go_ret
          exact ⟨(by first | rfl | (simp; done) | (simp [*]; done) | (rw [if_pos (by omega)]; first | rfl | (simp; done)) | (rw [if_neg (by omega)]; first | rfl | (simp; done)) | (simp; omega)), (by repeat (first | exact Below.refl _ _ | apply below_alloc | apply pw_below_drewN | apply below_drew1 | (refine Below.setCell ?_ (by first | (simp; done) | (simp; omega) | omega) _) | (refine below_then ?_ (by first | (simp; done) | (simp; omega) | omega) hb1) | exact hBw))⟩
        · rw [if_neg hz] at hv
          subst hv
          have hz' : ¬ (2000 : Int) < sh.size := by omega
          go_wp2_with fail
          go_ret
          exact ⟨(by first | rfl | (simp; done) | (simp [*]; done) | (rw [if_pos (by omega)]; first | rfl | (simp; done)) | (rw [if_neg (by omega)]; first | rfl | (simp; done)) | (simp; omega)), (by repeat (first | exact Below.refl _ _ | apply below_alloc | apply pw_below_drewN | apply below_drew1 | (refine Below.setCell ?_ (by first | (simp; done) | (simp; omega) | omega) _) | (refine below_then ?_ (by first | (simp; done) | (simp; omega) | omega) hb1) | exact hBw))⟩
end Go.Proofs.YtpeenmbonhijmaaDoor.H
