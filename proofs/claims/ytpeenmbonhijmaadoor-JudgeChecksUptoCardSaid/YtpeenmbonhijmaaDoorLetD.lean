/- Letters as texts: the walks of letter.show and the reference's messageText. -/
import Derived.Test.YtpeenmbonhijmaaDoorBuildA
import Derived.Test.YtpeenmbonhijmaaDoorKinds
import Derived.Deep.QuietTactic
import Derived.Deep.RegionHeld3
import Derived.BigQuiet
namespace Go.Proofs.YtpeenmbonhijmaaDoor.H
open Go.RowKit Go.Proofs.YtpeenmbonhijmaaDoorW.PrintWords Go.Proofs.YtpeenmbonhijmaaDoorW.PrintLast Go.Proofs.YtpeenmbonhijmaaDoorW.PrintMore Go.Proofs.YtpeenmbonhijmaaDoor.U
set_option linter.unusedVariables false
set_option linter.unusedSimpArgs false
theorem rowAField : RowT Tryd.prog kAField 39 100 32 (.agg #[.string ⟨#[]⟩, .string ⟨#[]⟩]) :=
  ⟨Tryd.underlying39, by kernel_rfl, rfl, by decide, by decide, flat_kd⟩
theorem IsB.alloc {B b : Nat} {bs : List Value} {w : World} (h : IsB B b bs w) (o : Obj) : IsB B b bs (w.alloc o) := by
  have key : ∀ {p : Value}, Lib.BuilderAt 122 5 B b p bs w → Lib.BuilderAt 122 5 B b p bs (w.alloc o) := fun {p} h => by
    have hlt := h.lt
    obtain ⟨hB, v, hb, hown, hne⟩ := h
    exact ⟨hB, v, by rw [Lib.alloc_old w _ b hlt]; exact hb, hown.alloc o, hne⟩
  exact h.elim (fun x => .inl (key x)) (fun x => .inr (key x))
def lineT (f : AField) : List UInt8 := f.name.data.toList ++ [58, 32] ++ f.value.data.toList ++ [13, 10]
def showL (l : List AField) : List UInt8 := l.flatMap lineT
def showT (l : List AField) (body : ByteArray) : ByteArray := ⟨(showL l ++ [13, 10] ++ body.data.toList).toArray⟩
theorem showL_snoc (l : List AField) (k : Nat) (h : k < l.length) : showL (l.take (k + 1)) = showL (l.take k) ++ lineT l[k] := by
  rw [List.take_succ_eq_append_getElem h, showL, List.flatMap_append]; simp [showL]
theorem showL_le (l : List AField) (k : Nat) : (showL (l.take k)).length ≤ (showL l).length := by
  rw [show showL l = showL (l.take k) ++ showL (l.drop k) by rw [showL, showL, showL, ← List.flatMap_append, List.take_append_drop]]
  simp
theorem cat_list (a b : ByteArray) : (a ++ b).data.toList = a.data.toList ++ b.data.toList := by
  rw [ByteArray.data_append, Array.toList_append]
theorem bytes_ext {a b : ByteArray} (h : a.data.toList = b.data.toList) : a = b := bytes_iff.1 h
def lineS (f : AField) : ByteArray := f.name ++ (⟨#[58, 32]⟩ : ByteArray) ++ f.value ++ (⟨#[13, 10]⟩ : ByteArray)
theorem lineS_list (f : AField) : (lineS f).data.toList = lineT f := by
  simp only [lineS, cat_list, lineT]
theorem lineS_size (f : AField) : (lineS f).size = (lineT f).length := by
  rw [← lineS_list]; simp
theorem showT_eq (l : List AField) (body : ByteArray) : (⟨(showL l).toArray⟩ : ByteArray) ++ (⟨#[13, 10]⟩ : ByteArray) ++ body = showT l body := by
  apply bytes_ext
  simp only [cat_list, showT]
set_option maxHeartbeats 1000000 in
set_option maxRecDepth 100000 in
theorem show_calls (A : Option Addr) (c : Nat) (l : List AField) (body : ByteArray) (w : World) (hr : Kd.C kAField w A l.length l) (hl : (showL l).length ≤ 4000000000000) (hs : ∀ x ∈ l, x.name.size ≤ 1048576 ∧ x.value.size ≤ 1048576) (hb : body.size ≤ 1048576) :
    Calls Tryd.prog 73 #[.agg #[.slice A l.length c, .string body]] w fun e w' => e = .returned (.string (showT l body)) ∧ Below w.heap.size w w' := by
  have h63 := hr.2.1
  have hfin := showT_eq l body
  generalize showT l body = r at *
  have hfin := Lib.hid hfin
  go_enter Tryd.func73, Tryd.ntmps73
  go_wp2_with fail
  go_loopw [9] (fun i wr => ∃ k : Nat, k ≤ l.length ∧ i = .int .i64 k ∧ IsB (w.heap.size + 1) (w.heap.size + 1) (Lib.byteCells (showL (l.take k))) wr ∧ Below (w.heap.size + 1) ((w.alloc (.cells #[.slice A l.length c, .string body] 41)).alloc (.cells #[.pointer none, .slice none 0 0] 122)) wr) (fun i _ => l.length - (intOf i).toNat)
  case atStart => exact ⟨0, Nat.zero_le _, rfl, by simpa [showL, Lib.byteCells] using Lib.fresh_isBuilder 122 5 (w.alloc (.cells #[.slice A l.length c, .string body] 41)), Below.refl _ _⟩
  case round =>
    obtain ⟨k, hk, rfl, hI, hB⟩ := hrel
    obtain ⟨hcb, hfb⟩ := bcellB hB
    have hz := hB.size
    simp at hz
    have hBw : Below w.heap.size w wr := Below.trans (by repeat (first | exact Below.refl _ _ | apply below_alloc | apply pw_below_drewN | apply below_drew1 | (refine Below.setCell ?_ (by first | (simp; done) | (simp; omega) | omega) _) )) (Below.mono hB (by omega))
    have m0 : wr.cell? ⟨w.heap.size, 0, none⟩ = some (.slice A l.length c) := by rw [hcb _ _ (by omega)]; simp
    have m1 : wr.cell? ⟨w.heap.size, 1, none⟩ = some (.string body) := by rw [hcb _ _ (by omega)]; simp
    clear hcb hfb
    by_cases hlt : k < l.length
    · obtain ⟨ad, e1, hx0, hxj⟩ := flat_at (Kd.C_below hr hBw) k hlt
      have hsn := showL_snoc l k hlt
      have hsl := showL_le l (k + 1)
      subst e1
      have q0 := hx0 _ rfl; have q1 := hxj 1 _ (by decide) rfl
      clear hx0 hxj
      obtain ⟨z1, z2⟩ := hs _ (List.getElem_mem hlt)
      have i0 : (0 : Int) ≤ (k : Int) := by omega
      have i1 : (k : Int) < (l.length : Int) := by omega
      have hW := fun W h1 h2 => writeString_calls (w.heap.size + 1) (w.heap.size + 1) (Lib.byteCells (showL (l.take k))) (lineS l[k]) W h1 (by rw [Lib.byteCells_length, lineS_size]; rw [hsn] at hsl; simp at hsl; omega) h2
      have hI2 := hI.alloc (.cells #[.string l[k].name, .string l[k].value] 100)
      have hnext : Lib.byteCells (showL (l.take k)) ++ Lib.strCells (lineS l[k]) = Lib.byteCells (showL (l.take (k + 1))) := by
        rw [hsn, Lib.byteCells_append, Lib.strCells_eq, lineS_list]
      unfold lineS at hW hnext
      have hW := Lib.hid hW
      have hnext := Lib.hid hnext
      clear hsn hsl
      go_wp2_with fail
      refine (hW.out _ hI2 (by simp; omega)).mono ?_
      rintro e w1 ⟨rfl, hA1, hb1⟩
      go_wp2_with fail
      go_roundw
      case rel => exact ⟨k + 1, by omega, by go_num, by rw [← hnext.out]; exact .inr hA1, hB.trans ((Below.alloc (Below.refl _ _) (by omega) _).trans hb1)⟩
      case measure => simp [intOf]; omega
    · obtain rfl : k = l.length := by omega
      rw [List.take_length] at hI
      have hString := fun W h1 h2 => Tryd.Builder_String_any (w.heap.size + 1) (w.heap.size + 1) (showL l) W h1 h2
      have hsz : (⟨(showL l).toArray⟩ : ByteArray).size ≤ 4000000000000 := by simpa [ByteArray.size] using hl
      generalize (⟨(showL l).toArray⟩ : ByteArray) = sh at *
      have d1 : (sh.size : Int) + 2 ≤ 9223372036854775807 := by omega
      have d2 : (sh.size : Int) + 2 + body.size ≤ 9223372036854775807 := by omega
      have hString := Lib.hid hString
      have m1d : wr.drew.cell? ⟨w.heap.size, 1, none⟩ = some (.string body) := by simpa using m1
      have hId : IsB (w.heap.size + 1) (w.heap.size + 1) (Lib.byteCells (showL l)) wr.drew := hI
      have hBd : w.heap.size + 1 ≤ wr.drew.heap.size := by simp; omega
      go_wp2_with fail
      refine wp_region_held_drew (S := fun w' => w'.cell? ⟨w.heap.size, 1, none⟩ = some (.string body)) (by kernel_rfl) ?_ (fun hHeld => ?_)
      · exact m1d
      refine wpAnyH_take (i := 2) (oi := { dst := some 24, op := _, type := _, pos := _, after := _, guard := _ }) (v := .pointer (some ⟨w.heap.size, 1, none⟩)) rfl (by kernel_rfl) (by kernel_rfl) (by kernel_rfl) (fun _ _ _ h => h) (Or.inl ⟨by rfl, by (intro w hSw; (try dsimp only at hSw); first | (go_simp; done) | (go_simp; with_reducible rfl) | (go_simp; omega) | (go_simp; simp [*]; done))⟩) (by assumption) ?_; try simp only [Act.put, List.setIfInBounds_toArray, List.set_cons_zero, List.set_cons_succ]
      refine wpAnyH_take (i := 3) (oi := { dst := some 25, op := _, type := _, pos := _, after := _, guard := _ }) (v := .string body) rfl (by kernel_rfl) (by kernel_rfl) (by kernel_rfl) (fun _ _ _ h => h) (Or.inl ⟨by rfl, by (intro w hSw; (try dsimp only at hSw); first | (go_simp; done) | (go_simp; with_reducible rfl) | (go_simp; omega) | (go_simp; simp [*]; done))⟩) (by assumption) ?_; try simp only [Act.put, List.setIfInBounds_toArray, List.set_cons_zero, List.set_cons_succ]
      refine wpAnyH_ready (rs := [0]) (by kernel_rfl) (by simp) ?_
      refine AllReadyH.cons (o := { dst := some 22, op := _, type := _, pos := _, after := _, guard := _ }) rfl (fun K hK => ?_) AllReadyH.nil
      go_simp
      go_at_call 87
      refine (hString.out _ hId hBd).mono ?_
      rintro e w1 ⟨rfl, hb1⟩
      go_wp2_with fail
      refine hK.out _ _ ?_ (fun hHeld => ?_)
      · exact (hb1.cell (p := ⟨w.heap.size, 1, none⟩) (Nat.lt_succ_self _)).trans m1d
      clear hK K
      refine wpAnyH_take (i := 1) (oi := { dst := some 23, op := _, type := _, pos := _, after := _, guard := _ }) (v := .string (sh ++ ⟨#[13, 10]⟩)) rfl (by kernel_rfl) (by kernel_rfl) (by kernel_rfl) (fun _ _ _ h => h) (Or.inl ⟨by rfl, by (intro w hSw; (try dsimp only at hSw); first | (go_simp; done) | (go_simp; with_reducible rfl) | (go_simp; omega) | (go_simp; simp [*]; done))⟩) (by assumption) ?_; try simp only [Act.put, List.setIfInBounds_toArray, List.set_cons_zero, List.set_cons_succ]
      refine wpAnyH_take (i := 4) (oi := { dst := some 26, op := _, type := _, pos := _, after := _, guard := _ }) (v := .string (sh ++ ⟨#[13, 10]⟩ ++ body)) rfl (by kernel_rfl) (by kernel_rfl) (by kernel_rfl) (fun _ _ _ h => h) (Or.inl ⟨by rfl, by (intro w hSw; (try dsimp only at hSw); first | (go_simp; done) | (go_simp; with_reducible rfl) | (go_simp; omega) | (go_simp; simp [*]; done))⟩) (by assumption) ?_; try simp only [Act.put, List.setIfInBounds_toArray, List.set_cons_zero, List.set_cons_succ]
      refine wpAnyH_take (i := 5) (oi := { dst := some 2, op := _, type := _, pos := _, after := _, guard := _ }) (v := .string (sh ++ ⟨#[13, 10]⟩ ++ body)) rfl (by kernel_rfl) (by kernel_rfl) (by kernel_rfl) (fun _ _ _ h => h) (Or.inl ⟨by rfl, by (intro w hSw; (try dsimp only at hSw); first | (go_simp; done) | (go_simp; with_reducible rfl) | (go_simp; omega) | (go_simp; simp [*]; done))⟩) (by assumption) ?_; try simp only [Act.put, List.setIfInBounds_toArray, List.set_cons_zero, List.set_cons_succ]
      refine wpAnyH_done (by kernel_rfl) ?_ _
      go_wp2_with fail
      go_ret
      exact ⟨by simp [hfin.out], Below.trans (show Below w.heap.size w _ from (by repeat (first | exact Below.refl _ _ | apply below_alloc | apply pw_below_drewN | apply below_drew1 | (refine Below.setCell ?_ (by first | (simp; done) | (simp; omega) | omega) _) | exact hBw))) (Below.mono hb1 (by omega))⟩
def showS (l : List AField) (k : Nat) : ByteArray := ⟨(showL (l.take k)).toArray⟩
theorem showS_next (l : List AField) (k : Nat) (h : k < l.length) : showS l k ++ l[k].name ++ (⟨#[58, 32]⟩ : ByteArray) ++ l[k].value ++ (⟨#[13, 10]⟩ : ByteArray) = showS l (k + 1) := by
  apply bytes_ext
  simp only [cat_list, showS, showL_snoc l k h, lineT, List.append_assoc]
theorem showS_size (l : List AField) (k : Nat) : (showS l k).size = (showL (l.take k)).length := by simp [showS, ByteArray.size]
set_option maxHeartbeats 1000000 in
set_option maxRecDepth 100000 in
theorem messageText_calls (A : Option Addr) (c : Nat) (l : List AField) (body : ByteArray) (w : World) (hr : Kd.C kAField w A l.length l) (hl : (showL l).length ≤ 4000000000000) (hs : ∀ x ∈ l, x.name.size ≤ 1048576 ∧ x.value.size ≤ 1048576) (hb : body.size ≤ 1048576) :
    Calls Tryd.prog 74 #[.agg #[.slice A l.length c, .string body]] w fun e w' => e = .returned (.string (showT l body)) ∧ Below w.heap.size w w' := by
  have h63 := hr.2.1
  have hfin : showS l l.length ++ (⟨#[13, 10]⟩ : ByteArray) ++ body = showT l body := by
    have := showT_eq l body
    rw [showS, List.take_length]; exact this
  generalize showT l body = r at *
  have hfin := Lib.hid hfin
  go_enter Tryd.func74, Tryd.ntmps74
  go_wp2_with fail
  go_loopw [3, 4] (fun v i wr => ∃ k : Nat, k ≤ l.length ∧ i = .int .i64 k ∧ v = .string (showS l k) ∧ Below (w.heap.size + 1) (w.alloc (.cells #[.slice A l.length c, .string body] 41)) wr) (fun _ i _ => l.length - (intOf i).toNat)
  case atStart => exact ⟨0, Nat.zero_le _, rfl, rfl, Below.refl _ _⟩
  case round =>
    obtain ⟨k, hk, rfl, rfl, hB⟩ := hrel
    obtain ⟨hcb, hfb⟩ := bcellB hB
    have hBw : Below w.heap.size w wr := Below.trans (by repeat (first | exact Below.refl _ _ | apply below_alloc | apply pw_below_drewN | apply below_drew1 | (refine Below.setCell ?_ (by first | (simp; done) | (simp; omega) | omega) _) )) (Below.mono hB (by omega))
    have m0 : wr.cell? ⟨w.heap.size, 0, none⟩ = some (.slice A l.length c) := by rw [hcb _ _ (by omega)]; simp
    have m1 : wr.cell? ⟨w.heap.size, 1, none⟩ = some (.string body) := by rw [hcb _ _ (by omega)]; simp
    clear hcb hfb
    have hsk : (showS l k).size ≤ 4000000000000 := by rw [showS_size]; have := showL_le l k; omega
    by_cases hlt : k < l.length
    · obtain ⟨ad, e1, hx0, hxj⟩ := flat_at (Kd.C_below hr hBw) k hlt
      have hnext := Lib.hid (showS_next l k hlt)
      obtain ⟨z1, z2⟩ := hs _ (List.getElem_mem hlt)
      subst e1
      have q0 := hx0 _ rfl; have q1 := hxj 1 _ (by decide) rfl
      clear hx0 hxj
      generalize showS l k = sk at *
      have i0 : (0 : Int) ≤ (k : Int) := by omega
      have i1 : (k : Int) < (l.length : Int) := by omega
      have d1 : (sk.size : Int) + l[k].name.size ≤ 9223372036854775807 := by omega
      have d2 : (sk.size : Int) + l[k].name.size + 2 ≤ 9223372036854775807 := by omega
      have d3 : (sk.size : Int) + l[k].name.size + 2 + l[k].value.size ≤ 9223372036854775807 := by omega
      have d4 : (sk.size : Int) + l[k].name.size + 2 + l[k].value.size + 2 ≤ 9223372036854775807 := by omega
      go_wp2
      go_quiet (fail)
      go_wp2
      go_roundw
      case rel => exact ⟨k + 1, by omega, by go_num, by rw [hnext.out], (by repeat (first | exact Below.refl _ _ | apply below_alloc | apply pw_below_drewN | apply below_drew1 | (refine Below.setCell ?_ (by first | (simp; done) | (simp; omega) | omega) _) | exact hB))⟩
      case measure => simp [intOf]; omega
    · obtain rfl : k = l.length := by omega
      generalize showS l l.length = sk at *
      go_wp2
      go_ret
      exact ⟨by simp [hfin.out], (by repeat (first | exact Below.refl _ _ | apply below_alloc | apply pw_below_drewN | apply below_drew1 | (refine Below.setCell ?_ (by first | (simp; done) | (simp; omega) | omega) _) | exact hBw))⟩
end Go.Proofs.YtpeenmbonhijmaaDoor.H
