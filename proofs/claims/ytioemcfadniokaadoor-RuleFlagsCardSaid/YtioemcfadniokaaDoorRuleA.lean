/- The walks of rule.Flags and of the reference's FlagsOf. -/
import Derived.Test.YtioemcfadniokaaDoorBase
import Derived.Lib.SlicesS
namespace Go.Proofs.YtioemcfadniokaaDoor.H
open Go.RowKit Go.Proofs.YtioemcfadniokaaDoorW.PrintWords Go.Proofs.YtioemcfadniokaaDoorW.PrintLast Go.Proofs.YtioemcfadniokaaDoorW.PrintMore Go.Proofs.YtioemcfadniokaaDoor.U
set_option linter.unusedVariables false
set_option linter.unusedSimpArgs false
def nSeen : ByteArray := ⟨#[92, 83, 101, 101, 110]⟩
def nAnswered : ByteArray := ⟨#[92, 65, 110, 115, 119, 101, 114, 101, 100]⟩
def nFlagged : ByteArray := ⟨#[92, 70, 108, 97, 103, 103, 101, 100]⟩
def nDeleted : ByteArray := ⟨#[92, 68, 101, 108, 101, 116, 101, 100]⟩
def nDraft : ByteArray := ⟨#[92, 68, 114, 97, 102, 116]⟩
def flagNames : List ByteArray := [nSeen, nAnswered, nFlagged, nDeleted, nDraft]
/-- The bit of a flag's name; 0: there is none. -/
def fbit (s : ByteArray) : Int := if s = nSeen then 1 else if s = nAnswered then 2 else if s = nFlagged then 4 else if s = nDeleted then 8 else if s = nDraft then 16 else 0
theorem fbit_cases (s : ByteArray) : s = nSeen ∨ s = nAnswered ∨ s = nFlagged ∨ s = nDeleted ∨ s = nDraft ∨ (s ≠ nSeen ∧ s ≠ nAnswered ∧ s ≠ nFlagged ∧ s ≠ nDeleted ∧ s ≠ nDraft) := by
  by_cases h0 : s = nSeen; · exact .inl h0
  by_cases h1 : s = nAnswered; · exact .inr (.inl h1)
  by_cases h2 : s = nFlagged; · exact .inr (.inr (.inl h2))
  by_cases h3 : s = nDeleted; · exact .inr (.inr (.inr (.inl h3)))
  by_cases h4 : s = nDraft; · exact .inr (.inr (.inr (.inr (.inl h4))))
  exact .inr (.inr (.inr (.inr (.inr ⟨h0, h1, h2, h3, h4⟩))))
def mask (b0 b1 b2 b3 b4 : Bool) : Int := (if b0 then 1 else 0) + (if b1 then 2 else 0) + (if b2 then 4 else 0) + (if b3 then 8 else 0) + (if b4 then 16 else 0)
/-- Stands a text in a list? -/
def hasT (l : List ByteArray) (x : ByteArray) : Bool := l.any fun s => decide (s = x)
/-- The bits of the names so far. -/
def maskL (l : List ByteArray) : Int := mask (hasT l nSeen) (hasT l nAnswered) (hasT l nFlagged) (hasT l nDeleted) (hasT l nDraft)
theorem mask_or0 : ∀ b0 b1 b2 b3 b4 : Bool, bits .or .i64 (mask b0 b1 b2 b3 b4) 1 = mask true b1 b2 b3 b4 := by decide +kernel
theorem mask_or1 : ∀ b0 b1 b2 b3 b4 : Bool, bits .or .i64 (mask b0 b1 b2 b3 b4) 2 = mask b0 true b2 b3 b4 := by decide +kernel
theorem mask_or2 : ∀ b0 b1 b2 b3 b4 : Bool, bits .or .i64 (mask b0 b1 b2 b3 b4) 4 = mask b0 b1 true b3 b4 := by decide +kernel
theorem mask_or3 : ∀ b0 b1 b2 b3 b4 : Bool, bits .or .i64 (mask b0 b1 b2 b3 b4) 8 = mask b0 b1 b2 true b4 := by decide +kernel
theorem mask_or4 : ∀ b0 b1 b2 b3 b4 : Bool, bits .or .i64 (mask b0 b1 b2 b3 b4) 16 = mask b0 b1 b2 b3 true := by decide +kernel
theorem mem_snoc (l : List ByteArray) (x y : ByteArray) : hasT (l ++ [x]) y = (hasT l y || decide (x = y)) := by
  simp [hasT]
theorem n01 : decide (nSeen = nAnswered) = false := by decide +kernel
theorem n02 : decide (nSeen = nFlagged) = false := by decide +kernel
theorem n03 : decide (nSeen = nDeleted) = false := by decide +kernel
theorem n04 : decide (nSeen = nDraft) = false := by decide +kernel
theorem n10 : decide (nAnswered = nSeen) = false := by decide +kernel
theorem n12 : decide (nAnswered = nFlagged) = false := by decide +kernel
theorem n13 : decide (nAnswered = nDeleted) = false := by decide +kernel
theorem n14 : decide (nAnswered = nDraft) = false := by decide +kernel
theorem n20 : decide (nFlagged = nSeen) = false := by decide +kernel
theorem n21 : decide (nFlagged = nAnswered) = false := by decide +kernel
theorem n23 : decide (nFlagged = nDeleted) = false := by decide +kernel
theorem n24 : decide (nFlagged = nDraft) = false := by decide +kernel
theorem n30 : decide (nDeleted = nSeen) = false := by decide +kernel
theorem n31 : decide (nDeleted = nAnswered) = false := by decide +kernel
theorem n32 : decide (nDeleted = nFlagged) = false := by decide +kernel
theorem n34 : decide (nDeleted = nDraft) = false := by decide +kernel
theorem n40 : decide (nDraft = nSeen) = false := by decide +kernel
theorem n41 : decide (nDraft = nAnswered) = false := by decide +kernel
theorem n42 : decide (nDraft = nFlagged) = false := by decide +kernel
theorem n43 : decide (nDraft = nDeleted) = false := by decide +kernel
theorem n00 : decide (nSeen = nSeen) = true := by decide +kernel
theorem n11 : decide (nAnswered = nAnswered) = true := by decide +kernel
theorem n22 : decide (nFlagged = nFlagged) = true := by decide +kernel
theorem n33 : decide (nDeleted = nDeleted) = true := by decide +kernel
theorem n44 : decide (nDraft = nDraft) = true := by decide +kernel
theorem maskL_or (l : List ByteArray) (x : ByteArray) (h : fbit x ≠ 0) : bits .or .i64 (maskL l) (fbit x) = maskL (l ++ [x]) := by
  simp only [maskL, mem_snoc]
  rcases fbit_cases x with rfl | rfl | rfl | rfl | rfl | ⟨h0, h1, h2, h3, h4⟩
  · rw [show fbit nSeen = 1 by decide +kernel, mask_or0]; simp only [decide_true, Bool.or_true, Bool.or_false, n01, n02, n03, n04, n10, n12, n13, n14, n20, n21, n23, n24, n30, n31, n32, n34, n40, n41, n42, n43]
  · rw [show fbit nAnswered = 2 by decide +kernel, mask_or1]; simp only [decide_true, Bool.or_true, Bool.or_false, n01, n02, n03, n04, n10, n12, n13, n14, n20, n21, n23, n24, n30, n31, n32, n34, n40, n41, n42, n43]
  · rw [show fbit nFlagged = 4 by decide +kernel, mask_or2]; simp only [decide_true, Bool.or_true, Bool.or_false, n01, n02, n03, n04, n10, n12, n13, n14, n20, n21, n23, n24, n30, n31, n32, n34, n40, n41, n42, n43]
  · rw [show fbit nDeleted = 8 by decide +kernel, mask_or3]; simp only [decide_true, Bool.or_true, Bool.or_false, n01, n02, n03, n04, n10, n12, n13, n14, n20, n21, n23, n24, n30, n31, n32, n34, n40, n41, n42, n43]
  · rw [show fbit nDraft = 16 by decide +kernel, mask_or4]; simp only [decide_true, Bool.or_true, Bool.or_false, n01, n02, n03, n04, n10, n12, n13, n14, n20, n21, n23, n24, n30, n31, n32, n34, n40, n41, n42, n43]
  · exact absurd (by simp [fbit, h0, h1, h2, h3, h4]) h
set_option maxHeartbeats 1000000 in
set_option maxRecDepth 100000 in
theorem flagBit_calls (s : ByteArray) (w : World) : Calls Tryd.prog 14 #[.string s] w fun e w' => e = .returned (.int .i64 (fbit s)) ∧ w = w' := by
  rcases fbit_cases s with h | h | h | h | h | ⟨h0, h1, h2, h3, h4⟩
  · have q0 : (s.toList == [92, 83, 101, 101, 110]) = true := lit_yes h
    have hh := Lib.hid h; clear h
    go_enter Tryd.func14, Tryd.ntmps14
    go_wp2
    go_ret
    exact ⟨by rw [hh.out]; rfl, rfl⟩
  · have q0 : (s.toList == [92, 83, 101, 101, 110]) = false := lit_no (by rw [h]; exact of_decide_eq_false n10)
    have q1 : (s.toList == [92, 65, 110, 115, 119, 101, 114, 101, 100]) = true := lit_yes h
    have hh := Lib.hid h; clear h
    go_enter Tryd.func14, Tryd.ntmps14
    go_wp2
    go_ret
    exact ⟨by rw [hh.out]; rfl, rfl⟩
  · have q0 : (s.toList == [92, 83, 101, 101, 110]) = false := lit_no (by rw [h]; exact of_decide_eq_false n20)
    have q1 : (s.toList == [92, 65, 110, 115, 119, 101, 114, 101, 100]) = false := lit_no (by rw [h]; exact of_decide_eq_false n21)
    have q2 : (s.toList == [92, 70, 108, 97, 103, 103, 101, 100]) = true := lit_yes h
    have hh := Lib.hid h; clear h
    go_enter Tryd.func14, Tryd.ntmps14
    go_wp2
    go_ret
    exact ⟨by rw [hh.out]; rfl, rfl⟩
  · have q0 : (s.toList == [92, 83, 101, 101, 110]) = false := lit_no (by rw [h]; exact of_decide_eq_false n30)
    have q1 : (s.toList == [92, 65, 110, 115, 119, 101, 114, 101, 100]) = false := lit_no (by rw [h]; exact of_decide_eq_false n31)
    have q2 : (s.toList == [92, 70, 108, 97, 103, 103, 101, 100]) = false := lit_no (by rw [h]; exact of_decide_eq_false n32)
    have q3 : (s.toList == [92, 68, 101, 108, 101, 116, 101, 100]) = true := lit_yes h
    have hh := Lib.hid h; clear h
    go_enter Tryd.func14, Tryd.ntmps14
    go_wp2
    go_ret
    exact ⟨by rw [hh.out]; rfl, rfl⟩
  · have q0 : (s.toList == [92, 83, 101, 101, 110]) = false := lit_no (by rw [h]; exact of_decide_eq_false n40)
    have q1 : (s.toList == [92, 65, 110, 115, 119, 101, 114, 101, 100]) = false := lit_no (by rw [h]; exact of_decide_eq_false n41)
    have q2 : (s.toList == [92, 70, 108, 97, 103, 103, 101, 100]) = false := lit_no (by rw [h]; exact of_decide_eq_false n42)
    have q3 : (s.toList == [92, 68, 101, 108, 101, 116, 101, 100]) = false := lit_no (by rw [h]; exact of_decide_eq_false n43)
    have q4 : (s.toList == [92, 68, 114, 97, 102, 116]) = true := lit_yes h
    have hh := Lib.hid h; clear h
    go_enter Tryd.func14, Tryd.ntmps14
    go_wp2
    go_ret
    exact ⟨by rw [hh.out]; rfl, rfl⟩
  · have q0 : (s.toList == [92, 83, 101, 101, 110]) = false := lit_no h0
    have q1 : (s.toList == [92, 65, 110, 115, 119, 101, 114, 101, 100]) = false := lit_no h1
    have q2 : (s.toList == [92, 70, 108, 97, 103, 103, 101, 100]) = false := lit_no h2
    have q3 : (s.toList == [92, 68, 101, 108, 101, 116, 101, 100]) = false := lit_no h3
    have q4 : (s.toList == [92, 68, 114, 97, 102, 116]) = false := lit_no h4
    have hh := Lib.hid (And.intro h0 (And.intro h1 (And.intro h2 (And.intro h3 h4)))); clear h0 h1 h2 h3 h4
    go_enter Tryd.func14, Tryd.ntmps14
    go_wp2
    go_ret
    obtain ⟨h0, h1, h2, h3, h4⟩ := hh.out; have hf : fbit s = 0 := by simp only [fbit, if_neg h0, if_neg h1, if_neg h2, if_neg h3, if_neg h4]
    exact ⟨by rw [hf]; rfl, rfl⟩
set_option maxHeartbeats 1000000 in
set_option maxRecDepth 100000 in
theorem Index_calls (A : Option Addr) (c : Nat) (l : List ByteArray) (x : ByteArray) (w : World) (hr : Kd.string.C w A l.length l) (hl : l.length ≤ 9223372036854775807) :
    Calls Tryd.prog 13 #[.slice A l.length c, .string x] w fun e w' => e = .returned (.int .i64 (Lib.idxOfS l x)) ∧ w = w' := by
  go_enter Tryd.func13, Tryd.ntmps13
  go_wp2
  go_loop [5, 8] (fun _ i => ∃ k : Nat, k ≤ l.length ∧ i = .int .i64 k ∧ ∀ j, j < k → l.getD j ByteArray.empty ≠ x) (fun _ i => l.length - (intOf i).toNat)
  case atStart => exact ⟨0, Nat.zero_le _, rfl, fun j hj => absurd hj (Nat.not_lt_zero _)⟩
  case round =>
    obtain ⟨k, hk, rfl, hne⟩ := hrel
    by_cases hlt : k < l.length
    · obtain ⟨ad, e1, hx⟩ := string_at hr k hlt
      subst e1
      by_cases heq : x = l[k]
      · have hq := (Lib.bytes_beq_iff x l[k]).2 heq
        have hh := Lib.hid (Lib.idxOfS_hit l l.length k x hlt (Nat.le_refl _) (by rw [List.getD_eq_getElem?_getD, List.getElem?_eq_getElem hlt]; exact heq.symm) hne)
        clear heq hne
        go_wp2
        go_ret
        exact ⟨by rw [← hh.out, List.take_length]; rfl, rfl⟩
      · have hq := (Lib.bytes_beq_false_iff x l[k]).2 heq
        have hn : ∀ j, j < k + 1 → l.getD j ByteArray.empty ≠ x := fun j hj => by
          by_cases e : j = k
          · subst e; rw [List.getD_eq_getElem?_getD, List.getElem?_eq_getElem hlt]; exact fun h => heq h.symm
          · exact hne j (by omega)
        have hh := Lib.hid hn
        clear heq hne hn
        go_wp2
        go_round
        case rel => exact ⟨k + 1, by omega, by go_num, hh.out⟩
        case measure => simp [intOf]; omega
    · obtain rfl : k = l.length := by omega
      have hh := Lib.hid (Lib.idxOfS_miss l l.length x hne)
      clear hne
      go_wp2
      go_ret
      exact ⟨by rw [List.take_length] at hh; rw [hh.out]; rfl, rfl⟩
/-- All names are flags. -/
def allFlags (l : List ByteArray) : Prop := ∀ s ∈ l, fbit s ≠ 0
noncomputable def flagsV (l : List ByteArray) : Int := open Classical in if allFlags l then maskL l else 0
noncomputable def flagsE (l : List ByteArray) : Int := open Classical in if allFlags l then 0 else 7
theorem flags_yes {l : List ByteArray} (h : allFlags l) : flagsV l = maskL l ∧ flagsE l = 0 := ⟨if_pos h, if_pos h⟩
theorem flags_no {l : List ByteArray} (h : ¬ allFlags l) : flagsV l = 0 ∧ flagsE l = 7 := ⟨if_neg h, if_neg h⟩
theorem idx_flags (x : ByteArray) : (fbit x = 0 ∧ Lib.idxOfS flagNames x = -1) ∨ (Lib.idxOfS flagNames x = 0 ∧ fbit x = 1) ∨ (Lib.idxOfS flagNames x = 1 ∧ fbit x = 2) ∨ (Lib.idxOfS flagNames x = 2 ∧ fbit x = 4) ∨ (Lib.idxOfS flagNames x = 3 ∧ fbit x = 8) ∨ (Lib.idxOfS flagNames x = 4 ∧ fbit x = 16) := by
  rcases fbit_cases x with rfl | rfl | rfl | rfl | rfl | ⟨h0, h1, h2, h3, h4⟩
  · exact .inr (.inl (by decide +kernel))
  · exact .inr (.inr (.inl (by decide +kernel)))
  · exact .inr (.inr (.inr (.inl (by decide +kernel))))
  · exact .inr (.inr (.inr (.inr (.inl (by decide +kernel)))))
  · exact .inr (.inr (.inr (.inr (.inr (by decide +kernel)))))
  · refine .inl ⟨by simp only [fbit, if_neg h0, if_neg h1, if_neg h2, if_neg h3, if_neg h4], ?_⟩
    simp only [Lib.idxOfS, Lib.idxFromS, flagNames, if_neg (Ne.symm h0), if_neg (Ne.symm h1), if_neg (Ne.symm h2), if_neg (Ne.symm h3), if_neg (Ne.symm h4)]
set_option maxHeartbeats 1000000 in
set_option maxRecDepth 100000 in
theorem Flags_calls (A : Option Addr) (c : Nat) (l : List ByteArray) (w : World) (hr : Kd.string.C w A l.length l) (hl : l.length ≤ 9223372036854775807) (hg : Kd.string.C w (some ⟨0, 0, none⟩) 5 flagNames) :
    Calls Tryd.prog 6 #[.slice A l.length c] w fun e w' => e = .returned (.tuple #[.int .i64 (flagsV l), .int .i64 (flagsE l)]) ∧ Below w.heap.size w w' := by
  go_enter Tryd.func6, Tryd.ntmps6
  go_wp2
  go_loopw [4, 10] (fun v i wr => ∃ k : Nat, k ≤ l.length ∧ i = .int .i64 k ∧ v = .int .i64 (maskL (l.take k)) ∧ allFlags (l.take k) ∧ Below w.heap.size w wr) (fun _ i _ => l.length - (intOf i).toNat)
  case atStart => exact ⟨0, Nat.zero_le _, rfl, rfl, by simp [allFlags], Below.refl _ _⟩
  case round =>
    obtain ⟨k, hk, rfl, rfl, hF, hB⟩ := hrel
    by_cases hlt : k < l.length
    · obtain ⟨ad, e1, hx⟩ := string_at (Kd.C_below hr hB) k hlt
      subst e1
      have hi := idx_flags l[k]
      have hts : l.take (k + 1) = l.take k ++ [l[k]] := List.take_succ_eq_append_getElem hlt
      have hgw := Kd.C_below hg hB
      have hfl : allFlags (l.take k ++ [l[k]]) ↔ fbit l[k] ≠ 0 := by
        constructor
        · intro h; exact h _ (List.mem_append_right _ (List.mem_singleton.2 rfl))
        · intro h s hs
          rcases List.mem_append.1 hs with hs | hs
          · exact hF s hs
          · rw [List.mem_singleton.1 hs]; exact h
      have hor := maskL_or (l.take k) l[k]
      have hnot : fbit l[k] = 0 → ¬ allFlags l := fun h0 ha => ha _ (List.getElem_mem hlt) h0
      have hno := flags_no (l := l)
      rw [← hts] at hfl hor
      have HT := Lib.hid (And.intro hfl (And.intro hor (And.intro hnot hno)))
      clear hfl hor hnot hno hts hF
      generalize hm : maskL (l.take k) = m at *
      clear hm
      have HI := fun w hr => Index_calls (some ⟨0, 0, none⟩) 5 flagNames l[k] w hr (by decide)
      rcases hi with ⟨h0, h1⟩ | ⟨h1, h0⟩ | ⟨h1, h0⟩ | ⟨h1, h0⟩ | ⟨h1, h0⟩ | ⟨h1, h0⟩
      · rw [h1] at HI
        have HI := Lib.hid HI
        go_wp2_with (go_at_call 13; refine (HI.out _ hgw).mono ?_; rintro e w2 ⟨rfl, rfl⟩)
        obtain ⟨_, _, g1, g2⟩ := HT.out
        obtain ⟨g3, g4⟩ := g2 (g1 h0)
        refine bodyPost_ret (v := .tuple #[.int .i64 0, .int .i64 7]) (by simp [results, Tryd.results6, go_sem, *]) rfl ⟨by rw [g3, g4], hB⟩
      all_goals
        rw [h1] at HI
        have HI := Lib.hid HI
        clear h1
        go_wp2_with (go_at_call 13; refine (HI.out _ hgw).mono ?_; rintro e w2 ⟨rfl, rfl⟩)
        obtain ⟨g0, g1, _, _⟩ := HT.out
        rw [h0] at g0 g1
        go_roundw
        case rel => exact ⟨k + 1, by omega, by go_num, by rw [← g1 (by decide)], g0.2 (by decide), hB⟩
        case measure => simp [intOf]; omega
    · obtain rfl : k = l.length := by omega
      rw [List.take_length] at hF ⊢
      obtain ⟨e1, e2⟩ := flags_yes hF
      rw [← e1]
      have hh := Lib.hid e2
      clear e1 e2 hF
      go_wp2
      refine bodyPost_ret (v := .tuple #[.int .i64 (flagsV l), .int .i64 0]) (by simp [results, Tryd.results6, go_sem, *]) rfl ⟨by rw [hh.out], hB⟩
def hasB (l : List ByteArray) (b : Int) : Bool := l.any fun s => decide (fbit s = b)
/-- The bits below the j-th. -/
def pm (l : List ByteArray) : Nat → Int
  | 0 => 0
  | j + 1 => pm l j + if hasB l (2 ^ j) then 2 ^ j else 0
theorem hasB_eq {l : List ByteArray} {x : ByteArray} {b : Int} (h : ∀ s, fbit s = b ↔ s = x) : hasB l b = hasT l x := by
  simp only [hasB, hasT, h]
theorem fbit_iff (x : ByteArray) (hx : x ∈ flagNames) : ∀ s, fbit s = fbit x ↔ s = x := by
  intro s
  refine ⟨fun h => ?_, fun h => by rw [h]⟩
  simp only [flagNames, List.mem_cons, List.mem_nil_iff, or_false] at hx
  rcases hx with rfl | rfl | rfl | rfl | rfl <;> rcases fbit_cases s with rfl | rfl | rfl | rfl | rfl | ⟨h0, h1, h2, h3, h4⟩ <;> first
    | rfl
    | (exact absurd h (by decide +kernel))
    | (rw [show fbit s = 0 by simp only [fbit, if_neg h0, if_neg h1, if_neg h2, if_neg h3, if_neg h4]] at h; exact absurd h (by decide +kernel))
theorem pm_five (l : List ByteArray) : pm l 5 = maskL l := by
  have e0 : hasB l 1 = hasT l nSeen := hasB_eq (fbit_iff nSeen (by simp [flagNames]))
  have e1 : hasB l 2 = hasT l nAnswered := hasB_eq (fbit_iff nAnswered (by simp [flagNames]))
  have e2 : hasB l 4 = hasT l nFlagged := hasB_eq (fbit_iff nFlagged (by simp [flagNames]))
  have e3 : hasB l 8 = hasT l nDeleted := hasB_eq (fbit_iff nDeleted (by simp [flagNames]))
  have e4 : hasB l 16 = hasT l nDraft := hasB_eq (fbit_iff nDraft (by simp [flagNames]))
  simp [pm, maskL, mask, e0, e1, e2, e3, e4]
theorem pm_bound (l : List ByteArray) : ∀ j, 0 ≤ pm l j ∧ pm l j < 2 ^ j
  | 0 => by simp [pm]
  | j + 1 => by
    have := pm_bound l j
    have h2 : (2 : Int) ^ (j + 1) = 2 ^ j + 2 ^ j := by omega
    simp only [pm]
    split <;> omega
/-- All names are flags, and none is this. -/
def allBut (l : List ByteArray) (b : Int) : Prop := ∀ s ∈ l, fbit s ≠ 0 ∧ fbit s ≠ b
theorem allBut_snoc {l : List ByteArray} {b : Int} {x : ByteArray} (h : allBut l b) (h0 : fbit x ≠ 0) (h1 : fbit x ≠ b) : allBut (l ++ [x]) b := fun s hs => by
  rcases List.mem_append.1 hs with hs | hs
  · exact h s hs
  · rw [List.mem_singleton.1 hs]; exact ⟨h0, h1⟩
set_option maxHeartbeats 1000000 in
set_option maxRecDepth 100000 in
theorem FlagsOf_calls (A : Option Addr) (c : Nat) (l : List ByteArray) (w : World) (hr : Kd.string.C w A l.length l) (hl : l.length ≤ 9223372036854775806) :
    Calls Tryd.prog 8 #[.slice A l.length c] w fun e w' => e = .returned (.tuple #[.int .i64 (flagsV l), .int .i64 (flagsE l)]) ∧ Below w.heap.size w w' := by
  have hnot : ∀ k (h : k < l.length), fbit l[k] = 0 → flagsV l = 0 ∧ flagsE l = 7 := fun k h h0 => flags_no fun ha => ha _ (List.getElem_mem h) h0
  go_enter Tryd.func8, Tryd.ntmps8
  go_wp2
  go_loopw [4, 5] (fun v i wr => ∃ j : Nat, j ≤ 5 ∧ i = .int .i64 (2 ^ j) ∧ v = .int .i64 (pm l j) ∧ Below w.heap.size w wr) (fun _ i _ => 32 - (intOf i).toNat)
  case atStart => exact ⟨0, Nat.zero_le _, rfl, rfl, Below.refl _ _⟩
  case round =>
    obtain ⟨j, hj, rfl, rfl, hB⟩ := hrel
    by_cases hlt : j < 5
    · have hb := pm_bound l j
      have hpm : ∀ b, hasB l (2 ^ j) = b → pm l (j + 1) = pm l j + if b then 2 ^ j else 0 := fun b h => by rw [← h]; rfl
      have hb5 : (2 : Int) ^ j ≤ 16 ∧ (1 : Int) ≤ 2 ^ j ∧ (2 : Int) ^ (j + 1) = 2 * 2 ^ j := by
        rcases (by omega : j = 0 ∨ j = 1 ∨ j = 2 ∨ j = 3 ∨ j = 4) with rfl | rfl | rfl | rfl | rfl <;> decide
      obtain ⟨b16, b1, bn⟩ := hb5
      have HP := Lib.hid hpm
      clear hpm
      generalize hq : (2 : Int) ^ j = q at *
      generalize hp : pm l j = p at *
      go_wp2
      go_loopw [4, 6] (fun v i wr => ∃ k : Nat, k ≤ l.length ∧ i = .int .i64 k ∧ v = .int .i64 p ∧ allBut (l.take k) q ∧ Below w.heap.size w wr) (fun _ i _ => l.length - (intOf i).toNat)
      case atStart => exact ⟨0, Nat.zero_le _, rfl, rfl, by simp [allBut], hB⟩
      case round =>
        clear hB
        obtain ⟨k, hk, rfl, rfl, hF, hB⟩ := hrel
        by_cases hlk : k < l.length
        · obtain ⟨ad, e1, hx⟩ := string_at (Kd.C_below hr hB) k hlk
          subst e1
          have hts := List.take_succ_eq_append_getElem hlk
          have hsn := allBut_snoc (x := l[k]) hF
          rw [← hts] at hsn
          have hn0 := hnot k hlk
          have hyes : fbit l[k] = q → hasB l q = true := fun h => by
            rw [hasB, List.any_eq_true]; exact ⟨_, List.getElem_mem hlk, by simp [h]⟩
          have HT := Lib.hid (And.intro hsn (And.intro hn0 hyes))
          clear hsn hn0 hyes hts hF hnot
          have HC := fun w => flagBit_calls l[k] w
          generalize hf : fbit l[k] = f at *
          have HC := Lib.hid HC
          have hf := Lib.hid hf
          by_cases f0 : f = 0
          · subst f0
            go_wp2_with (go_at_call 14; refine (HC.out _).mono ?_; rintro e w2 ⟨rfl, rfl⟩)
            refine bodyPost_ret (v := .tuple #[.int .i64 0, .int .i64 7]) (by simp [results, Tryd.results8, go_sem, *]) rfl ⟨by rw [(HT.out.2.1 (by simp)).1, (HT.out.2.1 (by simp)).2], (by repeat (first | exact Below.refl _ _ | apply below_alloc | apply pw_below_drewN | apply below_drew1 | (refine Below.setCell ?_ (by first | (simp; done) | (simp; omega) | omega) _) | (refine below_then ?_ (by first | (simp; done) | (simp; omega) | omega) hB)))⟩
          · by_cases f1 : f = q
            · subst f1
              go_wp2_with (go_at_call 14; refine (HC.out _).mono ?_; rintro e w2 ⟨rfl, rfl⟩)
              have hpm := HP.out _ (HT.out.2.2 trivial)
              rw [if_pos rfl] at hpm
              go_roundw
              case rel => exact ⟨j + 1, by omega, by rw [bn]; go_num, by rw [hpm], hB⟩
              case measure => simp [intOf]; omega
            · go_wp2_with (go_at_call 14; refine (HC.out _).mono ?_; rintro e w2 ⟨rfl, rfl⟩)
              go_roundw
              case rel => exact ⟨k + 1, by omega, by go_num, rfl, HT.out.1 f0 f1, hB⟩
              case measure => simp [intOf]; omega
        · obtain rfl : k = l.length := by omega
          rw [List.take_length] at hF
          have hno : hasB l q = false := by
            rw [hasB, List.any_eq_false]; intro s hs; have := (hF s hs).2; simpa using this
          have HN := Lib.hid hno
          clear hno hF
          go_wp2
          have hpm := HP.out _ HN.out
          rw [if_neg (by simp)] at hpm
          go_roundw
          case rel => exact ⟨j + 1, by omega, by rw [bn]; go_num, by rw [hpm]; go_num, hB⟩
          case measure => simp [intOf]; omega
    · obtain rfl : j = 5 := by omega
      have h5 := pm_five l
      rw [h5, show (2 : Int) ^ 5 = 32 from rfl]
      clear h5
      generalize hm : maskL l = m
      have hyes : allFlags l → flagsV l = m ∧ flagsE l = 0 := fun h => hm ▸ flags_yes h
      have HY := Lib.hid hyes
      clear hyes hm
      go_wp2
      go_loopw [7] (fun i wr => ∃ k : Nat, k ≤ l.length ∧ i = .int .i64 k ∧ allFlags (l.take k) ∧ Below w.heap.size w wr) (fun i _ => l.length - (intOf i).toNat)
      case atStart => exact ⟨0, Nat.zero_le _, rfl, by simp [allFlags], hB⟩
      case round =>
        clear hB
        obtain ⟨k, hk, rfl, hF, hB⟩ := hrel
        by_cases hlk : k < l.length
        · obtain ⟨ad, e1, hx⟩ := string_at (Kd.C_below hr hB) k hlk
          subst e1
          have hts := List.take_succ_eq_append_getElem hlk
          have hsn : fbit l[k] ≠ 0 → allFlags (l.take (k + 1)) := fun h s hs => by
            rw [hts] at hs
            rcases List.mem_append.1 hs with hs | hs
            · exact hF s hs
            · rw [List.mem_singleton.1 hs]; exact h
          have HT := Lib.hid (And.intro hsn (hnot k hlk))
          clear hsn hts hF hnot
          have HC := fun w => flagBit_calls l[k] w
          generalize fbit l[k] = f at *
          have HC := Lib.hid HC
          by_cases f0 : f = 0
          · subst f0
            go_wp2_with (go_at_call 14; refine (HC.out _).mono ?_; rintro e w2 ⟨rfl, rfl⟩)
            refine bodyPost_ret (v := .tuple #[.int .i64 0, .int .i64 7]) (by simp [results, Tryd.results8, go_sem, *]) rfl ⟨by rw [(HT.out.2 (by simp)).1, (HT.out.2 (by simp)).2], (by repeat (first | exact Below.refl _ _ | apply below_alloc | apply pw_below_drewN | apply below_drew1 | (refine Below.setCell ?_ (by first | (simp; done) | (simp; omega) | omega) _) | (refine below_then ?_ (by first | (simp; done) | (simp; omega) | omega) hB)))⟩
          · go_wp2_with (go_at_call 14; refine (HC.out _).mono ?_; rintro e w2 ⟨rfl, rfl⟩)
            go_roundw
            case rel => exact ⟨k + 1, by omega, by go_num, HT.out.1 f0, hB⟩
            case measure => simp [intOf]; omega
        · obtain rfl : k = l.length := by omega
          rw [List.take_length] at hF
          obtain ⟨e1, e2⟩ := HY.out hF
          rw [← e1]
          have hh := Lib.hid e2
          clear e1 e2 hF HY hnot
          go_wp2
          refine bodyPost_ret (v := .tuple #[.int .i64 (flagsV l), .int .i64 0]) (by simp [results, Tryd.results8, go_sem, *]) rfl ⟨by rw [hh.out], hB⟩
end Go.Proofs.YtioemcfadniokaaDoor.H
