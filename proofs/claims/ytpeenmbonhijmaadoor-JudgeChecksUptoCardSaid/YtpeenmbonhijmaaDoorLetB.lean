/- Letters: line ends and what is trimmed: the reference's walks. -/
import Derived.Test.YtpeenmbonhijmaaDoorLetA
import Derived.Lib.SlTrimSet
import Derived.Lib.IndexMore
namespace Go.Proofs.YtpeenmbonhijmaaDoor.H
open Go.RowKit Go.Proofs.YtpeenmbonhijmaaDoorW.PrintWords Go.Proofs.YtpeenmbonhijmaaDoorW.PrintLast Go.Proofs.YtpeenmbonhijmaaDoorW.PrintMore Go.Proofs.YtpeenmbonhijmaaDoor.U
set_option linter.unusedVariables false
set_option linter.unusedSimpArgs false
def bl (b : UInt8) : Bool := b == 32 || b == 9
theorem blank_calls (c : UInt8) (w : World) : Calls Tryd.prog 68 #[.int .u8 c.toNat] w fun e w' => e = .returned (.bool (bl c)) ∧ w = w' := by
  have b0 := c.toNat_lt
  have hv : bl c = (decide (c.toNat = 32) || decide (c.toNat = 9)) := by
    rw [bl, Bool.eq_iff_iff]
    simp only [Bool.or_eq_true, beq_iff_eq, decide_eq_true_eq, ← UInt8.toNat_inj]
    rfl
  rw [hv]
  clear hv
  rcases (by omega : c.toNat = 32 ∨ c.toNat = 9 ∨ (c.toNat ≠ 32 ∧ c.toNat ≠ 9)) with h | h | ⟨h, h2⟩
  · rw [h]
    go_enter Tryd.func68, Tryd.ntmps68
    go_wp2
    go_ret
    exact ⟨rfl, rfl⟩
  · rw [h]
    go_enter Tryd.func68, Tryd.ntmps68
    go_wp2
    go_ret
    exact ⟨rfl, rfl⟩
  · have e1 : ((c.toNat : Int) == 32) = false := by rw [beq_eq_false_iff_ne]; omega
    have e2 : ((c.toNat : Int) == 9) = false := by rw [beq_eq_false_iff_ne]; omega
    rw [show (decide (c.toNat = 32) || decide (c.toNat = 9)) = false by simp [h, h2]]
    go_enter Tryd.func68, Tryd.ntmps68
    go_wp2
    go_ret
    exact ⟨(by first | rfl | (simp; done) | (simp [*]; done) | (rw [if_pos (by omega)]; first | rfl | (simp; done)) | (rw [if_neg (by omega)]; first | rfl | (simp; done)) | (simp; omega)), rfl⟩
/-! What is trimmed. -/
def rtrim (l : List UInt8) : List UInt8 := (l.reverse.dropWhile bl).reverse
theorem rtrim_cons (x : UInt8) (t : List UInt8) : rtrim (x :: t) = if rtrim t = [] then (if bl x then [] else [x]) else x :: rtrim t := by
  simp only [rtrim, List.reverse_cons, List.dropWhile_append]
  obtain ⟨d, e⟩ : ∃ d, t.reverse.dropWhile bl = d := ⟨_, rfl⟩
  simp only [e]
  cases d with
  | nil => cases hb : bl x <;> simp [List.dropWhile, hb]
  | cons a r => simp
theorem trim_comm (l : List UInt8) : rtrim (l.dropWhile bl) = (rtrim l).dropWhile bl := by
  induction l with
  | nil => rfl
  | cons x t ih =>
    rw [rtrim_cons]
    cases hb : bl x with
    | true =>
      rw [List.dropWhile_cons, if_pos hb, ih]
      by_cases h : rtrim t = []
      · simp [h]
      · rw [if_neg h, List.dropWhile_cons, if_pos hb]
    | false =>
      rw [List.dropWhile_cons, if_neg (by simp [hb]), rtrim_cons]
      by_cases h : rtrim t = []
      · simp [h, hb, List.dropWhile]
      · rw [if_neg h, if_neg h, List.dropWhile_cons, if_neg (by simp [hb])]
/-- What is trimmed of a text. -/
def trimT (s : ByteArray) : ByteArray := ⟨(rtrim (s.data.toList.dropWhile bl)).toArray⟩
theorem trimT_lib (s : ByteArray) : (⟨(Lib.trimS s.data.toList [32, 9]).toArray⟩ : ByteArray) = trimT s := by
  have e : (fun b => ([32, 9] : List UInt8).contains b) = bl := by
    funext b; simp [bl, List.contains, List.elem]; cases (b == 32) <;> cases (b == 9) <;> rfl
  rw [trimT, trim_comm]
  unfold Lib.trimS Lib.trimLeftS Lib.trimRightS rtrim
  rw [e]
def strLen (v : Value) : Nat := match v with | .string s => s.size | _ => 0
theorem tl_size (t : ByteArray) : t.data.toList.length = t.size := by simp
theorem tail_list {t u : ByteArray} (h : u = t.extract 1 t.size) : u.data.toList = t.data.toList.drop 1 := by
  subst h
  rw [ByteArray.data_extract, Array.toList_extract, List.extract_eq_take_drop, List.take_of_length_le (by simp)]
theorem init_list {t u : ByteArray} (h : u = t.extract 0 (t.size - 1)) : u.data.toList = t.data.toList.take (t.size - 1) := by
  subst h
  rw [ByteArray.data_extract, Array.toList_extract, List.extract_eq_take_drop]; simp
theorem size0 {t : ByteArray} (h : t.size = 0) : t = ⟨#[]⟩ := by
  cases t with | mk d => simp [ByteArray.size] at h; simp [h]
set_option maxHeartbeats 1000000 in
set_option maxRecDepth 100000 in
theorem trimmed_calls (s : ByteArray) (w : World) (hs : s.size ≤ 9223372036854775806) : Calls Tryd.prog 71 #[.string s] w fun e w' => e = .returned (.string (trimT s)) ∧ w = w' := by
  have hB := blank_calls
  have HB := Lib.hid hB
  clear hB
  go_enter Tryd.func71, Tryd.ntmps71
  go_wp2
  go_loopw [0] (fun v wr => ∃ t : ByteArray, v = .string t ∧ t.data.toList.dropWhile bl = s.data.toList.dropWhile bl ∧ t.size ≤ s.size ∧ w = wr) (fun v _ => strLen v)
  case atStart => exact ⟨s, rfl, rfl, Nat.le_refl _, rfl⟩
  case round =>
    obtain ⟨t, rfl, hd, hsz, rfl⟩ := hrel
    have hd := Lib.hid hd
    by_cases h0 : t.size = 0
    · have h1 : ¬ (0 : Int) < t.size := by omega
      have hd1 : s.data.toList.dropWhile bl = t.data.toList := by
        have : t.data.toList = [] := List.length_eq_zero_iff.1 (by simpa using h0)
        rw [← hd.out, this]; rfl
      go_wp2_with (first | (go_at_call 68; refine (HB.out _ _).mono ?_; rintro e w2 ⟨rfl, rfl⟩))
      go_loopw [0] (fun v wr => ∃ u : ByteArray, v = .string u ∧ rtrim u.data.toList = rtrim (s.data.toList.dropWhile bl) ∧ u.size ≤ s.size ∧ w = wr) (fun v _ => strLen v)
      case atStart => exact ⟨t, rfl, by rw [hd1], hsz, rfl⟩
      case round =>
        clear hsz hd
        obtain ⟨u, rfl, hu, hsz, rfl⟩ := hrel
        by_cases h0 : u.size = 0
        · have h1 : ¬ (0 : Int) < u.size := by omega
          have hfin : u = trimT s := by
            have : u.data.toList = [] := List.length_eq_zero_iff.1 (by simpa using h0)
            rw [trimT, ← hu, this, size0 h0]; rfl
          subst hfin
          go_wp2_with (first | (go_at_call 68; refine (HB.out _ _).mono ?_; rintro e w2 ⟨rfl, rfl⟩))
          go_ret
          exact ⟨(by first | rfl | (simp; done) | (simp [*]; done) | (rw [if_pos (by omega)]; first | rfl | (simp; done)) | (rw [if_neg (by omega)]; first | rfl | (simp; done)) | (simp; omega)), rfl⟩
        · have h1 : (0 : Int) < u.size := by omega
          have h2 : u.size - 1 < u.size := by omega
          have hul : u.data.toList = u.data.toList.take (u.size - 1) ++ [u[u.size - 1]] := by
            rw [show u[u.size - 1] = u.data.toList[u.size - 1]'(by simpa using h2) from by rw [Array.getElem_toList]; rfl]
            rw [← List.take_succ_eq_append_getElem (by simpa using h2), List.take_of_length_le (by simp; omega)]
          have hrs : ∀ b, bl u[u.size - 1] = b → rtrim u.data.toList = if b then rtrim (u.data.toList.take (u.size - 1)) else u.data.toList := fun b hb => by
            rw [hul]
            unfold rtrim
            rw [List.reverse_append, List.reverse_singleton, List.singleton_append, List.dropWhile_cons, hb]
            cases b <;> simp
          have hi : (u.size : Int) - 1 = ((u.size - 1 : Nat) : Int) := by omega
          have hrs := Lib.hid hrs
          clear hul
          cases hb : bl u[u.size - 1] with
          | true =>
            have hd2 : rtrim (u.extract 0 (u.size - 1)).data.toList = rtrim (s.data.toList.dropWhile bl) := by
              rw [init_list rfl, ← hu, hrs.out true hb]; rfl
            have hd2 := Lib.hid hd2
            clear hu
            go_wp2_with (first | (go_at_call 68; refine (HB.out _ _).mono ?_; rintro e w2 ⟨rfl, rfl⟩))
            refine ⟨⟨_, rfl, hd2.out, ?_, trivial⟩, ?_⟩
            · rw [ByteArray.size_extract]; omega
            · simp only [strLen, ByteArray.size_extract]; omega
          | false =>
            have hfin : u = trimT s := by
              rw [trimT, ← hu, hrs.out false hb]; rfl
            clear hu
            subst hfin
            go_wp2_with (first | (go_at_call 68; refine (HB.out _ _).mono ?_; rintro e w2 ⟨rfl, rfl⟩))
            go_ret
            exact ⟨(by first | rfl | (simp; done) | (simp [*]; done) | (rw [if_pos (by omega)]; first | rfl | (simp; done)) | (rw [if_neg (by omega)]; first | rfl | (simp; done)) | (simp; omega)), rfl⟩
    · have h1 : (0 : Int) < t.size := by omega
      have h2 : 0 < t.size := by omega
      have htl : t.data.toList = t[0] :: t.data.toList.drop 1 := by
        rw [show t[0] = t.data.toList[0]'(by simpa using h2) from by rw [Array.getElem_toList]; rfl]
        exact (List.drop_eq_getElem_cons (i := 0) (by simpa using h2))
      cases hb : bl t[0] with
      | true =>
        have hd1 : (t.extract 1 t.size).data.toList.dropWhile bl = s.data.toList.dropWhile bl := by
          rw [tail_list rfl, ← hd.out, htl, List.dropWhile_cons, if_pos hb]; simp
        have hd1 := Lib.hid hd1
        clear htl
        go_wp2_with (first | (go_at_call 68; refine (HB.out _ _).mono ?_; rintro e w2 ⟨rfl, rfl⟩))
        refine ⟨⟨_, rfl, hd1.out, ?_, trivial⟩, ?_⟩
        · rw [ByteArray.size_extract]; omega
        · simp only [strLen, ByteArray.size_extract]; omega
      | false =>
        have hd1 : s.data.toList.dropWhile bl = t.data.toList := by
          rw [← hd.out, htl, List.dropWhile_cons, if_neg (by simp [hb]), ← htl]
        clear htl
        go_wp2_with (first | (go_at_call 68; refine (HB.out _ _).mono ?_; rintro e w2 ⟨rfl, rfl⟩))
        go_loopw [0] (fun v wr => ∃ u : ByteArray, v = .string u ∧ rtrim u.data.toList = rtrim (s.data.toList.dropWhile bl) ∧ u.size ≤ s.size ∧ w = wr) (fun v _ => strLen v)
        case atStart => exact ⟨t, rfl, by rw [hd1], hsz, rfl⟩
        case round =>
          clear hsz hd
          obtain ⟨u, rfl, hu, hsz, rfl⟩ := hrel
          by_cases h0 : u.size = 0
          · have h1 : ¬ (0 : Int) < u.size := by omega
            have hfin : u = trimT s := by
              have : u.data.toList = [] := List.length_eq_zero_iff.1 (by simpa using h0)
              rw [trimT, ← hu, this, size0 h0]; rfl
            subst hfin
            go_wp2_with (first | (go_at_call 68; refine (HB.out _ _).mono ?_; rintro e w2 ⟨rfl, rfl⟩))
            go_ret
            exact ⟨(by first | rfl | (simp; done) | (simp [*]; done) | (rw [if_pos (by omega)]; first | rfl | (simp; done)) | (rw [if_neg (by omega)]; first | rfl | (simp; done)) | (simp; omega)), rfl⟩
          · have h1 : (0 : Int) < u.size := by omega
            have h2 : u.size - 1 < u.size := by omega
            have hul : u.data.toList = u.data.toList.take (u.size - 1) ++ [u[u.size - 1]] := by
              rw [show u[u.size - 1] = u.data.toList[u.size - 1]'(by simpa using h2) from by rw [Array.getElem_toList]; rfl]
              rw [← List.take_succ_eq_append_getElem (by simpa using h2), List.take_of_length_le (by simp; omega)]
            have hrs : ∀ b, bl u[u.size - 1] = b → rtrim u.data.toList = if b then rtrim (u.data.toList.take (u.size - 1)) else u.data.toList := fun b hb => by
              rw [hul]
              unfold rtrim
              rw [List.reverse_append, List.reverse_singleton, List.singleton_append, List.dropWhile_cons, hb]
              cases b <;> simp
            have hi : (u.size : Int) - 1 = ((u.size - 1 : Nat) : Int) := by omega
            have hrs := Lib.hid hrs
            clear hul
            cases hb : bl u[u.size - 1] with
            | true =>
              have hd2 : rtrim (u.extract 0 (u.size - 1)).data.toList = rtrim (s.data.toList.dropWhile bl) := by
                rw [init_list rfl, ← hu, hrs.out true hb]; rfl
              have hd2 := Lib.hid hd2
              clear hu
              go_wp2_with (first | (go_at_call 68; refine (HB.out _ _).mono ?_; rintro e w2 ⟨rfl, rfl⟩))
              refine ⟨⟨_, rfl, hd2.out, ?_, trivial⟩, ?_⟩
              · rw [ByteArray.size_extract]; omega
              · simp only [strLen, ByteArray.size_extract]; omega
            | false =>
              have hfin : u = trimT s := by
                rw [trimT, ← hu, hrs.out false hb]; rfl
              clear hu
              subst hfin
              go_wp2_with (first | (go_at_call 68; refine (HB.out _ _).mono ?_; rintro e w2 ⟨rfl, rfl⟩))
              go_ret
              exact ⟨(by first | rfl | (simp; done) | (simp [*]; done) | (rw [if_pos (by omega)]; first | rfl | (simp; done)) | (rw [if_neg (by omega)]; first | rfl | (simp; done)) | (simp; omega)), rfl⟩
end Go.Proofs.YtpeenmbonhijmaaDoor.H
