/- Rows of addresses: the walks. -/
import Derived.Test.YtijdghplfhfpaaaDoorKinds
import Derived.Test.YtijdghplfhfpaaaDoorCur
import Derived.Deep.QuietTactic
import Derived.BigQuiet
namespace Go.Proofs.YtijdghplfhfpaaaDoor.H
open Go.RowKit Go.Proofs.YtijdghplfhfpaaaDoorW.PrintWords Go.Proofs.YtijdghplfhfpaaaDoorW.PrintLast Go.Proofs.YtijdghplfhfpaaaDoorW.PrintMore Go.Proofs.YtijdghplfhfpaaaDoor.U
set_option linter.unusedVariables false
set_option linter.unusedSimpArgs false
theorem rowAAddress : RowT Tryd.prog kAAddress 50 49 32 (.agg #[.string ⟨#[]⟩, .string ⟨#[]⟩]) :=
  ⟨Tryd.underlying50, by kernel_rfl, rfl, by decide, by decide, flat_kd⟩
def eqbAAddress (x y : AAddress) : Bool := x.loc.toList == y.loc.toList && (x.dom.toList == y.dom.toList)
theorem eqbAAddress_iff {x y : AAddress} : eqbAAddress x y = true ↔ x = y := by
  cases x; cases y
  simp only [eqbAAddress, Bool.and_eq_true, beq_iff_eq, ByteArray.toList_eq, bytes_iff, AAddress.mk.injEq]
theorem eqbAAddress_self (x : AAddress) : eqbAAddress x x = true := eqbAAddress_iff.2 rfl
theorem eqAAddress (d : Nat) (w : World) (x_loc : ByteArray) (x_dom : ByteArray) (y_loc : ByteArray) (y_dom : ByteArray) :
    (Op.equalIn (d + 2) 49 (.agg #[.string x_loc, .string x_dom]) (.agg #[.string y_loc, .string y_dom])).run Tryd.prog w = .ok (eqbAAddress ⟨x_loc, x_dom⟩ ⟨y_loc, y_dom⟩) w := by
  refine eqA_of Tryd.underlying49 (by kernel_rfl) ?_
  refine eqf_cons (by rfl) (by go_simp; rfl) (by go_simp; rfl) (by go_simp) ?_
  exact eqf_last (by rfl) (by go_simp; rfl) (by go_simp; rfl) (by go_simp)
attribute [local go_sem high] eqAAddress
set_option maxHeartbeats 1000000 in
set_option maxRecDepth 100000 in
theorem cloneAddrs_calls (A : Option Addr) (c : Nat) (l : List AAddress) (w : World) (hr : Kd.C kAAddress w A l.length l) (hl : l.length * 32 ≤ 140737488355328) :
    Calls Tryd.prog 64 #[.slice A l.length c] w fun e w' => ∃ v : Value, e = .returned v ∧ Kd.R kAAddress 49 w' w.heap.size (fun _ => True) v l ∧ Below w.heap.size w w' := by
  have hnil := fun (w : World) (a : Option Addr) (n c n' c' : Nat) => Lib.run_eql_slice_nil (P := Tryd.prog) w _ _ a n c n' c' rowAAddress.ht
  cases A with
  | none =>
    obtain ⟨rfl, _⟩ := C_nil _ w rfl hr
    go_enter Tryd.func64, Tryd.ntmps64
    go_wp2
    go_ret
    exact ⟨_, rfl, Kd.R_nil _ _ _ _ _, Below.refl _ _⟩
  | some ad =>
    go_enter Tryd.func64, Tryd.ntmps64
    go_wp2_with (at_builtin; refine rows_list rowAAddress w.heap.size rfl _ _ rfl (.slice (some ⟨w.heap.size, 0, none⟩) 0 0) [] l (some ad) c rfl rfl (R_lit0 _ _ _) (Kd.C_below hr (by repeat (first | exact Below.refl _ _ | apply below_alloc | apply pw_below_drewN | apply below_drew1))) (by simp) (by simpa using hl) ?_; intro v1 w1 hR hb1 hg1)
    go_ret
    exact ⟨_, rfl, hR, ((Below.refl _ _).alloc (Nat.le_refl _) _).trans hb1⟩
attribute [local go_sem high] eqbAAddress_self
set_option maxHeartbeats 1000000 in
set_option maxRecDepth 100000 in
theorem sameAddrs_calls (A : Option Addr) (c : Nat) (A2 : Option Addr) (c2 : Nat) (l : List AAddress) (w : World) (hr : Kd.C kAAddress w A l.length l) (hr2 : Kd.C kAAddress w A2 l.length l) :
    Calls Tryd.prog 69 #[.slice A l.length c, .slice A2 l.length c2] w fun e w' => e = .returned (.bool true) ∧ Below w.heap.size w w' := by
  have h63 := hr.2.1
  go_enter Tryd.func69, Tryd.ntmps69
  go_wp2
  go_loopw [5] (fun i wr => ∃ k : Nat, k ≤ l.length ∧ i = .int .i64 k ∧ ∃ q, wr = w.drewN q) (fun i _ => l.length - (intOf i).toNat)
  case atStart => exact ⟨0, Nat.zero_le _, rfl, 0, rfl⟩
  case round =>
    obtain ⟨k, hk, rfl, q, rfl⟩ := hrel
    by_cases hlt : k < l.length
    · obtain ⟨ad, e1, hx0, hxj⟩ := flat_at hr k hlt
      obtain ⟨ad2, e2, hy0, hyj⟩ := flat_at hr2 k hlt
      subst e1 e2
      have q0 := hx0 _ rfl; have q1 := hxj 1 _ (by decide) rfl
      have r0 := hy0 _ rfl; have r1 := hyj 1 _ (by decide) rfl
      clear hx0 hxj hy0 hyj
      have i0 : (0 : Int) ≤ (k : Int) := by omega
      have i1 : (k : Int) < (l.length : Int) := by omega
      go_wp2
      go_quiet (fail)
      go_wp2
      go_roundw
      case rel => exact ⟨k + 1, by omega, by go_num, _, rfl⟩
      case measure => simp [intOf]; omega
    · obtain rfl : k = l.length := by omega
      go_wp2
      go_ret
      exact ⟨rfl, by first | exact Below.refl _ _ | exact pw_below_drewN (Below.refl _ _) _⟩
attribute [-go_sem] eqbAAddress_self
def hasA (l : List AAddress) (x : AAddress) : Bool := l.any fun y => eqbAAddress y x
theorem hasA_no {l : List AAddress} {x : AAddress} (h : ∀ j (hj : j < l.length), eqbAAddress l[j] x = false) : hasA l x = false := by
  rw [hasA, List.any_eq_false]
  intro y hy
  obtain ⟨i, hi, rfl⟩ := List.mem_iff_getElem.1 hy
  simpa using h i hi
theorem hasA_yes {l : List AAddress} {x : AAddress} (k : Nat) (hk : k < l.length) (h : eqbAAddress l[k] x = true) : hasA l x = true := by
  rw [hasA, List.any_eq_true]
  exact ⟨_, List.getElem_mem hk, h⟩
set_option maxHeartbeats 1000000 in
set_option maxRecDepth 100000 in
theorem addressIn_calls (A : Option Addr) (c : Nat) (l : List AAddress) (x : AAddress) (w : World) (hr : Kd.C kAAddress w A l.length l) :
    Calls Tryd.prog 105 #[.slice A l.length c, .agg #[.string x.loc, .string x.dom]] w fun e w' => e = .returned (.bool (hasA l x)) ∧ Below w.heap.size w w' := by
  have h63 := hr.2.1
  have hyes := fun k hk h => hasA_yes (l := l) (x := x) k hk h
  have hall := fun h => hasA_no (l := l) (x := x) h
  generalize hasA l x = r at *
  have HY := Lib.hid (And.intro hyes hall)
  clear hyes hall
  go_enter Tryd.func105, Tryd.ntmps105
  go_wp2
  go_loopw [5] (fun i wr => ∃ k : Nat, k ≤ l.length ∧ i = .int .i64 k ∧ (∀ j (hj : j < l.length), j < k → eqbAAddress l[j] x = false) ∧ Below (w.heap.size + 1) (w.alloc (.cells #[.string x.loc, .string x.dom] 49)) wr) (fun i _ => l.length - (intOf i).toNat)
  case atStart => exact ⟨0, Nat.zero_le _, rfl, fun j _ hj => absurd hj (Nat.not_lt_zero _), Below.refl _ _⟩
  case round =>
    obtain ⟨k, hk, rfl, hne, hB⟩ := hrel
    have hne := Lib.hid hne
    by_cases hlt : k < l.length
    · obtain ⟨hcb, hfb⟩ := bcellB hB
      have x0 : wr.cell? ⟨w.heap.size, 0, none⟩ = some (.string x.loc) := by rw [hcb _ _ (by omega)]; simp
      have x1 : wr.cell? ⟨w.heap.size, 1, none⟩ = some (.string x.dom) := by rw [hcb _ _ (by omega)]; simp
      have hz := hB.size
      simp at hz
      obtain ⟨ad, e1, hx0, hxj⟩ := flat_at (show Kd.C kAAddress wr A l.length l from Kd.C_below (n := l.length) hr (show Below w.heap.size w wr from (by repeat (first | exact Below.refl _ _ | apply below_alloc | apply pw_below_drewN | apply below_drew1 | (refine Below.setCell ?_ (by first | (simp; done) | (simp; omega) | omega) _) | (refine Below.trans ?_ (Below.mono hB (by first | (simp; done) | (simp; omega) | omega))))))) k hlt
      subst e1
      have q0 := hx0 _ rfl; have q1 := hxj 1 _ (by decide) rfl
      clear hx0 hxj hcb hfb
      have hs : eqbAAddress l[k] x = false → ∀ j (hj : j < l.length), j < k + 1 → eqbAAddress l[j] x = false := fun h j hj hjk => by
        rcases Nat.lt_or_ge j k with h' | h'
        · exact hne.out j hj h'
        · obtain rfl : j = k := by omega
          exact h
      have HS := Lib.hid hs
      clear hs hne
      have i0 : (0 : Int) ≤ (k : Int) := by omega
      have i1 : (k : Int) < (l.length : Int) := by omega
      cases hq : eqbAAddress l[k] x with
      | true =>
        obtain rfl := HY.out.1 k hlt hq
        go_wp2
        go_quiet (fail)
        go_wp2
        go_ret
        exact ⟨(by first | rfl | (simp; done) | (simp [*]; done) | (rw [if_pos (by omega)]; first | rfl | (simp; done)) | (rw [if_neg (by omega)]; first | rfl | (simp; done)) | (simp; omega)), (by repeat (first | exact Below.refl _ _ | apply below_alloc | apply pw_below_drewN | apply below_drew1 | (refine Below.setCell ?_ (by first | (simp; done) | (simp; omega) | omega) _) | (refine Below.trans ?_ (Below.mono hB (by first | (simp; done) | (simp; omega) | omega)))))⟩
      | false =>
        go_wp2
        go_quiet (fail)
        go_wp2
        go_roundw
        case rel => exact ⟨k + 1, by omega, by go_num, HS.out hq, (by repeat (first | exact Below.refl _ _ | apply below_alloc | apply pw_below_drewN | apply below_drew1 | (refine Below.setCell ?_ (by first | (simp; done) | (simp; omega) | omega) _) | exact hB))⟩
        case measure => simp [intOf]; omega
    · obtain rfl : k = l.length := by omega
      obtain rfl := HY.out.2 (fun j hj => hne.out j hj hj)
      go_wp2
      go_ret
      exact ⟨(by first | rfl | (simp; done) | (simp [*]; done) | (rw [if_pos (by omega)]; first | rfl | (simp; done)) | (rw [if_neg (by omega)]; first | rfl | (simp; done)) | (simp; omega)), (by repeat (first | exact Below.refl _ _ | apply below_alloc | apply pw_below_drewN | apply below_drew1 | (refine Below.setCell ?_ (by first | (simp; done) | (simp; omega) | omega) _) | (refine Below.trans ?_ (Below.mono hB (by first | (simp; done) | (simp; omega) | omega)))))⟩
set_option maxHeartbeats 1000000 in
set_option maxRecDepth 100000 in
theorem addrIndex_calls (A : Option Addr) (c : Nat) (l : List AAddress) (x : AAddress) (w : World) (hr : Kd.C kAAddress w A l.length l) :
    Calls Tryd.prog 153 #[.slice A l.length c, .agg #[.string x.loc, .string x.dom]] w fun e w' => (∃ i : Int, e = .returned (.int .i64 i) ∧ (hasA l x = decide (0 ≤ i))) ∧ Below w.heap.size w w' := by
  have h63 := hr.2.1
  have hyes := fun k hk h => hasA_yes (l := l) (x := x) k hk h
  have hall := fun h => hasA_no (l := l) (x := x) h
  generalize hasA l x = r at *
  have HY := Lib.hid (And.intro hyes hall)
  clear hyes hall
  go_enter Tryd.func153, Tryd.ntmps153
  go_wp2
  go_loopw [5, 8] (fun _ i wr => ∃ k : Nat, k ≤ l.length ∧ i = .int .i64 k ∧ (∀ j (hj : j < l.length), j < k → eqbAAddress l[j] x = false) ∧ Below (w.heap.size + 1) (w.alloc (.cells #[.string x.loc, .string x.dom] 49)) wr) (fun _ i _ => l.length - (intOf i).toNat)
  case atStart => exact ⟨0, Nat.zero_le _, rfl, fun j _ hj => absurd hj (Nat.not_lt_zero _), Below.refl _ _⟩
  case round =>
    obtain ⟨k, hk, rfl, hne, hB⟩ := hrel
    have hne := Lib.hid hne
    by_cases hlt : k < l.length
    · obtain ⟨hcb, hfb⟩ := bcellB hB
      have x0 : wr.cell? ⟨w.heap.size, 0, none⟩ = some (.string x.loc) := by rw [hcb _ _ (by omega)]; simp
      have x1 : wr.cell? ⟨w.heap.size, 1, none⟩ = some (.string x.dom) := by rw [hcb _ _ (by omega)]; simp
      have hz := hB.size
      simp at hz
      obtain ⟨ad, e1, hx0, hxj⟩ := flat_at (show Kd.C kAAddress wr A l.length l from Kd.C_below (n := l.length) hr (show Below w.heap.size w wr from (by repeat (first | exact Below.refl _ _ | apply below_alloc | apply pw_below_drewN | apply below_drew1 | (refine Below.setCell ?_ (by first | (simp; done) | (simp; omega) | omega) _) | (refine Below.trans ?_ (Below.mono hB (by first | (simp; done) | (simp; omega) | omega))))))) k hlt
      subst e1
      have q0 := hx0 _ rfl; have q1 := hxj 1 _ (by decide) rfl
      clear hx0 hxj hcb hfb
      have hs : eqbAAddress l[k] x = false → ∀ j (hj : j < l.length), j < k + 1 → eqbAAddress l[j] x = false := fun h j hj hjk => by
        rcases Nat.lt_or_ge j k with h' | h'
        · exact hne.out j hj h'
        · obtain rfl : j = k := by omega
          exact h
      have HS := Lib.hid hs
      clear hs hne
      have i0 : (0 : Int) ≤ (k : Int) := by omega
      have i1 : (k : Int) < (l.length : Int) := by omega
      have hsym : eqbAAddress x l[k] = eqbAAddress l[k] x := by
        rw [Bool.eq_iff_iff, eqbAAddress_iff, eqbAAddress_iff]; exact eq_comm
      cases hq : eqbAAddress l[k] x with
      | true =>
        rw [hq] at hsym
        obtain rfl := HY.out.1 k hlt hq
        go_wp2
        go_quiet (fail)
        go_wp2
        go_ret
        exact ⟨⟨_, rfl, by simp⟩, (by repeat (first | exact Below.refl _ _ | apply below_alloc | apply pw_below_drewN | apply below_drew1 | (refine Below.setCell ?_ (by first | (simp; done) | (simp; omega) | omega) _) | (refine Below.trans ?_ (Below.mono hB (by first | (simp; done) | (simp; omega) | omega)))))⟩
      | false =>
        rw [hq] at hsym
        go_wp2
        go_quiet (fail)
        go_wp2
        go_roundw
        case rel => exact ⟨k + 1, by omega, by go_num, HS.out hq, (by repeat (first | exact Below.refl _ _ | apply below_alloc | apply pw_below_drewN | apply below_drew1 | (refine Below.setCell ?_ (by first | (simp; done) | (simp; omega) | omega) _) | exact hB))⟩
        case measure => simp [intOf]; omega
    · obtain rfl : k = l.length := by omega
      obtain rfl := HY.out.2 (fun j hj => hne.out j hj hj)
      go_wp2
      go_ret
      exact ⟨⟨_, rfl, by simp⟩, (by repeat (first | exact Below.refl _ _ | apply below_alloc | apply pw_below_drewN | apply below_drew1 | (refine Below.setCell ?_ (by first | (simp; done) | (simp; omega) | omega) _) | (refine Below.trans ?_ (Below.mono hB (by first | (simp; done) | (simp; omega) | omega)))))⟩
set_option maxHeartbeats 1000000 in
set_option maxRecDepth 100000 in
theorem addrContains_calls (A : Option Addr) (c : Nat) (l : List AAddress) (x : AAddress) (w : World) (hr : Kd.C kAAddress w A l.length l) :
    Calls Tryd.prog 98 #[.slice A l.length c, .agg #[.string x.loc, .string x.dom]] w fun e w' => e = .returned (.bool (hasA l x)) ∧ Below w.heap.size w w' := by
  have HI := fun w hr => addrIndex_calls A c l x w hr
  generalize hasA l x = r at *
  have HI := Lib.hid HI
  go_enter Tryd.func98, Tryd.ntmps98
  go_wp2_with fail
  refine (HI.out _ (Kd.C_below hr (by repeat (first | exact Below.refl _ _ | apply below_alloc | apply pw_below_drewN | apply below_drew1 | (refine Below.setCell ?_ (by first | (simp; done) | (simp; omega) | omega) _) )))).mono ?_
  rintro e w1 ⟨⟨i, rfl, hi⟩, hb1⟩
  subst hi
  by_cases h : 0 ≤ i
  all_goals
    go_wp2_with fail
    go_ret
    exact ⟨by simp [h], (by repeat (first | exact Below.refl _ _ | apply below_alloc | apply pw_below_drewN | apply below_drew1 | (refine Below.setCell ?_ (by first | (simp; done) | (simp; omega) | omega) _) | (refine below_then ?_ (by first | (simp; done) | (simp; omega) | omega) hb1)))⟩
end Go.Proofs.YtijdghplfhfpaaaDoor.H
