/- The claim BoxAppliesUptoCardSaid, part 3 of 6. -/
import Derived.Test.YtijdghplfhfpaaaDoorBoxAppliesK2
import Derived.Test.YtijdghplfhfpaaaDoorBoxAppliesK1
import Derived.Deep.QuietTactic
import Derived.Deep.RegionHeld3
import Derived.BigQuiet
import Derived.Test.YtijdghplfhfpaaaDoorWApart
/- Lists of addresses: the reference's plainAt, addressAt: the walks. -/
namespace Go.Proofs.YtijdghplfhfpaaaDoor.H
open Go.RowKit Go.Proofs.YtijdghplfhfpaaaDoorW.PrintWords Go.Proofs.YtijdghplfhfpaaaDoorW.PrintLast Go.Proofs.YtijdghplfhfpaaaDoor.U
set_option linter.unusedVariables false
set_option linter.unusedSimpArgs false
/-- An address without words, and how many bits that are. -/
def PostPlain (w : World) (R : Option (AAddress × List ABit)) (e : Ending) (w' : World) : Prop :=
  match R with
  | some (a, _) => e = .returned (.tuple #[.agg #[.string a.loc, .string a.dom], .int .i64 3]) ∧ Below w.heap.size w w'
  | none => e = .returned (.tuple #[.agg #[.string ⟨#[]⟩, .string ⟨#[]⟩], .int .i64 0]) ∧ Below w.heap.size w w'
theorem plain_short (ok : ByteArray → ByteArray → Bool) (l : List ABit) (i : Nat) (h : l.length ≤ i + 2) : plainR ok (l.drop i) = none := by
  have : (l.drop i).length ≤ 2 := by rw [List.length_drop]; omega
  match hd : l.drop i with
  | [] => rfl
  | [_] => rfl
  | [_, _] => rfl
  | _ :: _ :: _ :: _ => rw [hd] at this; simp at this
theorem drop3 (l : List ABit) (i : Nat) (h : i + 2 < l.length) : l.drop i = l[i] :: l[i + 1] :: l[i + 2] :: l.drop (i + 3) := by
  rw [List.drop_eq_getElem_cons (by omega : i < l.length), List.drop_eq_getElem_cons (by omega : i + 1 < l.length), List.drop_eq_getElem_cons h]
set_option maxHeartbeats 1000000 in
set_option maxRecDepth 100000 in
theorem plainAt_calls (A : Option Addr) (c : Nat) (l : List ABit) (i : Nat) (w : World) (hr : Kd.C kABit w A l.length l) (hi : i ≤ l.length) (hl : l.length ≤ 1048577) (hs : ∀ b ∈ l, b.text.size ≤ 1048576) :
    Calls Tryd.prog 190 #[.slice A l.length c, .int .i64 i] w (PostPlain w (plainR okAddr (l.drop i))) := by
  by_cases h2 : i + 2 < l.length
  · rw [drop3 l i h2]
    have hrA := Kd.C_alloc hr (.cells #[.string ⟨#[]⟩, .string ⟨#[]⟩] 49)
    obtain ⟨ad, e1, x0, xj⟩ := flat_at hrA i (by omega)
    obtain ⟨ad', e2, y0, yj⟩ := flat_at hrA (i + 1) (by omega)
    obtain ⟨ad'', e3, z0, zj⟩ := flat_at hrA (i + 2) h2
    subst e1
    obtain rfl := Option.some.inj e2
    obtain rfl := Option.some.inj e3
    have p0 := x0 _ rfl; have p1 := xj 1 _ (by decide) rfl
    have q0 := y0 _ rfl; have q1 := yj 1 _ (by decide) rfl; have q2 := yj 2 _ (by decide) rfl; have q3 := yj 3 _ (by decide) rfl
    have r0 := z0 _ rfl; have r1 := zj 1 _ (by decide) rfl; have r2 := zj 2 _ (by decide) rfl; have r3 := zj 3 _ (by decide) rfl
    clear x0 xj y0 yj z0 zj
    have s0 := hs _ (List.getElem_mem (by omega : i < l.length))
    have s2 := hs _ (List.getElem_mem h2)
    generalize l[i] = b0 at *
    generalize l[i + 1] = b1 at *
    generalize l[i + 2] = b2 at *
    obtain ⟨t0, u0, v0, a0⟩ := b0
    obtain ⟨t1, u1, v1, a1⟩ := b1
    obtain ⟨t2, u2, v2, a2⟩ := b2
    simp only at p0 p1 q0 q1 q2 q3 r0 r1 r2 r3 s0 s2
    have i0 : (0 : Int) ≤ (i : Int) := by omega
    have i1 : (i : Int) < (l.length : Int) := by omega
    have i2 : (i : Int) + 1 < (l.length : Int) := by omega
    have i3 : (i : Int) + 2 < (l.length : Int) := by omega
    have HC := fun w => addressFault_calls t0 t2 w s0 s2
    simp only [plainR]
    generalize hP : (if u0 = true ∧ t1 = ⟨#[64]⟩ ∧ u2 = true ∧ a1 = false ∧ a2 = false ∧ okAddr t0 t2 = true then some ((⟨t0, t2⟩ : AAddress), l.drop (i + 3)) else none) = P
    unfold okAddr at hP
    generalize addrFault t0 t2 = f at *
    have HC := Lib.hid HC
    have hP := Lib.hid hP
    clear hr hrA hs hi
    cases u0 with
    | false =>
      obtain rfl : none = P := by simpa using hP.out
      clear hP
      go_enter Tryd.func190, Tryd.ntmps190
      go_wp2
      refine bodyPost_ret (v := .tuple #[.agg #[.string ⟨#[]⟩, .string ⟨#[]⟩], .int .i64 0]) (by simp [results, Tryd.results190, go_sem, *]) rfl ?_
      exact ⟨rfl, (by repeat (first | exact Below.refl _ _ | apply below_alloc | apply pw_below_drewN | apply below_drew1 | (refine Below.setCell ?_ (by first | (simp; done) | (simp; omega) | omega) _) ))⟩
    | true =>
      by_cases ht : t1 = ⟨#[64]⟩
      · have e1 := lit_yes (l := [64]) ht
        cases u2 with
        | false =>
          obtain rfl : none = P := by simpa using hP.out
          clear hP ht
          go_enter Tryd.func190, Tryd.ntmps190
          go_wp2
          refine bodyPost_ret (v := .tuple #[.agg #[.string ⟨#[]⟩, .string ⟨#[]⟩], .int .i64 0]) (by simp [results, Tryd.results190, go_sem, *]) rfl ?_
          exact ⟨rfl, (by repeat (first | exact Below.refl _ _ | apply below_alloc | apply pw_below_drewN | apply below_drew1 | (refine Below.setCell ?_ (by first | (simp; done) | (simp; omega) | omega) _) ))⟩
        | true =>
          cases a1 with
          | true =>
            obtain rfl : none = P := by simpa using hP.out
            clear hP ht
            go_enter Tryd.func190, Tryd.ntmps190
            go_wp2
            refine bodyPost_ret (v := .tuple #[.agg #[.string ⟨#[]⟩, .string ⟨#[]⟩], .int .i64 0]) (by simp [results, Tryd.results190, go_sem, *]) rfl ?_
            exact ⟨rfl, (by repeat (first | exact Below.refl _ _ | apply below_alloc | apply pw_below_drewN | apply below_drew1 | (refine Below.setCell ?_ (by first | (simp; done) | (simp; omega) | omega) _) ))⟩
          | false =>
            cases a2 with
            | true =>
              obtain rfl : none = P := by simpa using hP.out
              clear hP ht
              go_enter Tryd.func190, Tryd.ntmps190
              go_wp2
              refine bodyPost_ret (v := .tuple #[.agg #[.string ⟨#[]⟩, .string ⟨#[]⟩], .int .i64 0]) (by simp [results, Tryd.results190, go_sem, *]) rfl ?_
              exact ⟨rfl, (by repeat (first | exact Below.refl _ _ | apply below_alloc | apply pw_below_drewN | apply below_drew1 | (refine Below.setCell ?_ (by first | (simp; done) | (simp; omega) | omega) _) ))⟩
            | false =>
              by_cases hf : f = 0
              · obtain rfl : some ((⟨t0, t2⟩ : AAddress), l.drop (i + 3)) = P := by simpa [ht, hf] using hP.out
                clear hP ht
                subst hf
                go_enter Tryd.func190, Tryd.ntmps190
                go_wp2_with fail
                have hw1 : IntKind.i64.wrap ((i : Int) + 2) = (i : Int) + 2 := by rw [IntKind.wrap_i64]; omega
                have hw2 : (0 : Int) ≤ (i : Int) + 2 := by omega
                have hw3 : ((i : Int) + 2).toNat = i + 2 := by omega
                go_region_held3 (fun w' => w'.cell? (ad.add (i * 4)) = some (.string t0) ∧ w'.cell? (ad.add ((i + 2) * 4)) = some (.string t2))
                  (first | exact ⟨cell_drew' p0, cell_drew' r0⟩ | exact ⟨cell_alloc' (cell_drew' p0) _, cell_alloc' (cell_drew' r0) _⟩ | go_keep) (fail)
                clear hw1 hw2 hw3
                go_wp2_with fail
                refine (HC.out _).mono ?_
                rintro e w1 ⟨rfl, hb1⟩
                obtain ⟨hc_w1, hf_w1⟩ := bcell hb1
                have s_ := hb1.size
                (try simp at s_)
                (first | (have : w.heap.size < w1.heap.size := by omega) | skip)
                have : w.heap.size ≤ w1.heap.size := by omega
                clear s_
                have : w1.cell? ⟨w.heap.size, 0, none⟩ = some (.string ⟨#[]⟩) := (by rw [hc_w1 _ _ (by first | (simp; done) | (simp; omega))]; first | (simp; done) | (simp [*]; done) | assumption | (simp [go_sem, *]; done)); have : w1.frozen? ⟨w.heap.size, 0, none⟩ = false := (by rw [hf_w1 _ _ (by first | (simp; done) | (simp; omega))]; first | (simp; done) | (simp [*]; done) | assumption | (simp [go_sem, *]; done)); have : w1.cell? ⟨w.heap.size, 1, none⟩ = some (.string ⟨#[]⟩) := (by rw [hc_w1 _ _ (by first | (simp; done) | (simp; omega))]; first | (simp; done) | (simp [*]; done) | assumption | (simp [go_sem, *]; done)); have : w1.frozen? ⟨w.heap.size, 1, none⟩ = false := (by rw [hf_w1 _ _ (by first | (simp; done) | (simp; omega))]; first | (simp; done) | (simp [*]; done) | assumption | (simp [go_sem, *]; done))
                have : w1.cell? ⟨w.heap.size + 1, 0, none⟩ = some (.string t0) := (by rw [hc_w1 _ _ (by first | (simp; done) | (simp; omega))]; first | (simp; done) | (simp [*]; done) | assumption | (simp [go_sem, *]; done)); have : w1.frozen? ⟨w.heap.size + 1, 0, none⟩ = false := (by rw [hf_w1 _ _ (by first | (simp; done) | (simp; omega))]; first | (simp; done) | (simp [*]; done) | assumption | (simp [go_sem, *]; done)); have : w1.cell? ⟨w.heap.size + 1, 1, none⟩ = some (.string t2) := (by rw [hc_w1 _ _ (by first | (simp; done) | (simp; omega))]; first | (simp; done) | (simp [*]; done) | assumption | (simp [go_sem, *]; done)); have : w1.frozen? ⟨w.heap.size + 1, 1, none⟩ = false := (by rw [hf_w1 _ _ (by first | (simp; done) | (simp; omega))]; first | (simp; done) | (simp [*]; done) | assumption | (simp [go_sem, *]; done))
                clear hc_w1 hf_w1
                go_wp2_with fail
                refine bodyPost_ret (v := .tuple #[.agg #[.string t0, .string t2], .int .i64 3]) (by simp [results, Tryd.results190, go_sem, *]) rfl ?_
                exact ⟨rfl, (by repeat (first | exact Below.refl _ _ | apply below_alloc | apply pw_below_drewN | apply below_drew1 | (refine Below.setCell ?_ (by first | (simp; done) | (simp; omega) | omega) _) | (refine below_then ?_ (by first | (simp; done) | (simp; omega) | omega) hb1)))⟩
              · obtain rfl : none = P := by simpa [hf] using hP.out
                have e2 : (f != 0) = true := by rw [bne_iff_ne]; exact hf
                clear hP ht
                go_enter Tryd.func190, Tryd.ntmps190
                go_wp2_with fail
                have hw1 : IntKind.i64.wrap ((i : Int) + 2) = (i : Int) + 2 := by rw [IntKind.wrap_i64]; omega
                have hw2 : (0 : Int) ≤ (i : Int) + 2 := by omega
                have hw3 : ((i : Int) + 2).toNat = i + 2 := by omega
                go_region_held3 (fun w' => w'.cell? (ad.add (i * 4)) = some (.string t0) ∧ w'.cell? (ad.add ((i + 2) * 4)) = some (.string t2))
                  (first | exact ⟨cell_drew' p0, cell_drew' r0⟩ | exact ⟨cell_alloc' (cell_drew' p0) _, cell_alloc' (cell_drew' r0) _⟩ | go_keep) (fail)
                clear hw1 hw2 hw3
                go_wp2_with fail
                refine (HC.out _).mono ?_
                rintro e w1 ⟨rfl, hb1⟩
                obtain ⟨hc_w1, hf_w1⟩ := bcell hb1
                have s_ := hb1.size
                (try simp at s_)
                (first | (have : w.heap.size < w1.heap.size := by omega) | skip)
                have : w.heap.size ≤ w1.heap.size := by omega
                clear s_
                have : w1.cell? ⟨w.heap.size, 0, none⟩ = some (.string ⟨#[]⟩) := (by rw [hc_w1 _ _ (by first | (simp; done) | (simp; omega))]; first | (simp; done) | (simp [*]; done) | assumption | (simp [go_sem, *]; done)); have : w1.frozen? ⟨w.heap.size, 0, none⟩ = false := (by rw [hf_w1 _ _ (by first | (simp; done) | (simp; omega))]; first | (simp; done) | (simp [*]; done) | assumption | (simp [go_sem, *]; done)); have : w1.cell? ⟨w.heap.size, 1, none⟩ = some (.string ⟨#[]⟩) := (by rw [hc_w1 _ _ (by first | (simp; done) | (simp; omega))]; first | (simp; done) | (simp [*]; done) | assumption | (simp [go_sem, *]; done)); have : w1.frozen? ⟨w.heap.size, 1, none⟩ = false := (by rw [hf_w1 _ _ (by first | (simp; done) | (simp; omega))]; first | (simp; done) | (simp [*]; done) | assumption | (simp [go_sem, *]; done))
                have : w1.cell? ⟨w.heap.size + 1, 0, none⟩ = some (.string t0) := (by rw [hc_w1 _ _ (by first | (simp; done) | (simp; omega))]; first | (simp; done) | (simp [*]; done) | assumption | (simp [go_sem, *]; done)); have : w1.frozen? ⟨w.heap.size + 1, 0, none⟩ = false := (by rw [hf_w1 _ _ (by first | (simp; done) | (simp; omega))]; first | (simp; done) | (simp [*]; done) | assumption | (simp [go_sem, *]; done)); have : w1.cell? ⟨w.heap.size + 1, 1, none⟩ = some (.string t2) := (by rw [hc_w1 _ _ (by first | (simp; done) | (simp; omega))]; first | (simp; done) | (simp [*]; done) | assumption | (simp [go_sem, *]; done)); have : w1.frozen? ⟨w.heap.size + 1, 1, none⟩ = false := (by rw [hf_w1 _ _ (by first | (simp; done) | (simp; omega))]; first | (simp; done) | (simp [*]; done) | assumption | (simp [go_sem, *]; done))
                clear hc_w1 hf_w1
                go_wp2_with fail
                refine bodyPost_ret (v := .tuple #[.agg #[.string ⟨#[]⟩, .string ⟨#[]⟩], .int .i64 0]) (by simp [results, Tryd.results190, go_sem, *]) rfl ?_
                exact ⟨rfl, (by repeat (first | exact Below.refl _ _ | apply below_alloc | apply pw_below_drewN | apply below_drew1 | (refine Below.setCell ?_ (by first | (simp; done) | (simp; omega) | omega) _) | (refine below_then ?_ (by first | (simp; done) | (simp; omega) | omega) hb1)))⟩
      · have e1 := lit_no (l := [64]) ht
        obtain rfl : none = P := by simpa [ht] using hP.out
        clear hP ht
        go_enter Tryd.func190, Tryd.ntmps190
        go_wp2
        refine bodyPost_ret (v := .tuple #[.agg #[.string ⟨#[]⟩, .string ⟨#[]⟩], .int .i64 0]) (by simp [results, Tryd.results190, go_sem, *]) rfl ?_
        exact ⟨rfl, (by repeat (first | exact Below.refl _ _ | apply below_alloc | apply pw_below_drewN | apply below_drew1 | (refine Below.setCell ?_ (by first | (simp; done) | (simp; omega) | omega) _) ))⟩
  · rw [plain_short _ l i (by omega)]
    have i3 : (l.length : Int) ≤ (i : Int) + 2 := by omega
    go_enter Tryd.func190, Tryd.ntmps190
    go_wp2
    refine bodyPost_ret (v := .tuple #[.agg #[.string ⟨#[]⟩, .string ⟨#[]⟩], .int .i64 0]) (by simp [results, Tryd.results190, go_sem, *]) rfl ?_
    exact ⟨rfl, (by repeat (first | exact Below.refl _ _ | apply below_alloc | apply pw_below_drewN | apply below_drew1 | (refine Below.setCell ?_ (by first | (simp; done) | (simp; omega) | omega) _) ))⟩
end Go.Proofs.YtijdghplfhfpaaaDoor.H

/- Lists of addresses: the reference's addressAt: the walk. -/
namespace Go.Proofs.YtijdghplfhfpaaaDoor.H
open Go.RowKit Go.Proofs.YtijdghplfhfpaaaDoorW.PrintWords Go.Proofs.YtijdghplfhfpaaaDoorW.PrintLast Go.Proofs.YtijdghplfhfpaaaDoor.U
set_option linter.unusedVariables false
set_option linter.unusedSimpArgs false
/-- An address, and the place behind it. -/
def PostAddr (w : World) (l : List ABit) (R : Option (AAddress × List ABit)) (e : Ending) (w' : World) : Prop :=
  match R with
  | some (a, r) => ∃ d : Nat, e = .returned (.tuple #[.agg #[.string a.loc, .string a.dom], .int .i64 d]) ∧ d ≤ l.length ∧ r = l.drop d ∧ Below w.heap.size w w'
  | none => e = .returned (.tuple #[.agg #[.string ⟨#[]⟩, .string ⟨#[]⟩], .int .i64 (-1)]) ∧ Below w.heap.size w w'
theorem plain_rest {ok : ByteArray → ByteArray → Bool} {l r : List ABit} {i : Nat} {a : AAddress} (h : plainR ok (l.drop i) = some (a, r)) : i + 2 < l.length ∧ r = l.drop (i + 3) := by
  rcases Nat.lt_or_ge (i + 2) l.length with h1 | h1
  · rw [drop3 l i h1, plainR] at h
    split at h
    · cases h; exact ⟨h1, rfl⟩
    · cases h
  · rw [plain_short ok l i h1] at h; cases h
set_option maxHeartbeats 8000000 in
set_option maxRecDepth 100000 in
theorem addressAt_calls (A : Option Addr) (c : Nat) (l : List ABit) (i : Nat) (w : World) (hr : Kd.C kABit w A l.length l) (hi : i ≤ l.length) (hl : l.length ≤ 1048576) (hs : ∀ b ∈ l, b.text.size ≤ 1048576) :
    Calls Tryd.prog 151 #[.slice A l.length c, .int .i64 i] w (PostAddr w l (addrR okAddr (l.drop i))) := by
  generalize hR : addrR okAddr (l.drop i) = R
  unfold addrR at hR
  have HP := fun W hr => plainAt_calls A c l i W hr hi (by omega) hs
  have hpr := fun a r => plain_rest (ok := okAddr) (l := l) (i := i) (a := a) (r := r)
  generalize plainR okAddr (l.drop i) = P at *
  have HP := Lib.hid HP
  cases P with
  | some x =>
    obtain ⟨a, r⟩ := x
    simp only at hR
    subst hR
    obtain ⟨h1, hrr⟩ := hpr a r rfl
    clear hpr
    go_enter Tryd.func151, Tryd.ntmps151
    go_wp2_with fail
    refine (HP.out _ (Kd.C_alloc hr _)).mono ?_
    intro e w1 hw1
    obtain ⟨rfl, hb1⟩ : _ ∧ _ := hw1
    have k1 := (Blk.made w #[.string ⟨#[]⟩, .string ⟨#[]⟩] 49).below hb1 (by simp)
    have z1 := hb1.size
    simp at z1
    have q0 := k1.at 0 _ rfl
    have q1 := k1.at 1 _ rfl
    have p0 := k1.free 0 _ rfl
    have p1 := k1.free 1 _ rfl
    have zl : w.heap.size < w1.heap.size := by omega
    have zn : ¬ w1.heap.size = w.heap.size := by omega
    go_wp2_with fail
    refine bodyPost_ret (v := .tuple #[.agg #[.string a.loc, .string a.dom], .int .i64 ((i : Int) + 3)]) (by simp [results, Tryd.results151, go_sem, *]) rfl ?_
    exact ⟨i + 3, by simp, by omega, hrr, (by repeat (first | exact Below.refl _ _ | apply below_alloc | apply pw_below_drewN | apply below_drew1 | (refine Below.setCell ?_ (by first | (simp; done) | (simp; omega) | omega) _) | (refine below_then ?_ (by first | (simp; done) | (simp; omega) | omega) hb1)))⟩
  | none =>
    simp only at hR
    clear hpr
    go_enter Tryd.func151, Tryd.ntmps151
    go_wp2_with fail
    refine (HP.out _ (Kd.C_alloc hr _)).mono ?_
    intro e w1 hw1
    obtain ⟨rfl, hb1⟩ : _ ∧ _ := hw1
    have z1 := hb1.size
    simp at z1
    have kR := ((Blk.made w #[.string ⟨#[]⟩, .string ⟨#[]⟩] 49).below hb1 (by simp)).alloc (.cells #[.string ⟨#[]⟩, .string ⟨#[]⟩] 49)
    have kT := Blk.made w1 #[.string ⟨#[]⟩, .string ⟨#[]⟩] 49
    have bb : Below w.heap.size w (w1.alloc (.cells #[.string ⟨#[]⟩, .string ⟨#[]⟩] 49)) := (by repeat (first | exact Below.refl _ _ | apply below_alloc | apply pw_below_drewN | apply below_drew1 | (refine Below.setCell ?_ (by first | (simp; done) | (simp; omega) | omega) _) | (refine below_then ?_ (by first | (simp; done) | (simp; omega) | omega) hb1)))
    have hrW := Kd.C_below hr bb
    have zl : w.heap.size < w1.heap.size := by omega
    go_wp2_with fail
    generalize w1.alloc (.cells #[.string ⟨#[]⟩, .string ⟨#[]⟩] 49) = W at *
    clear hb1 z1 HP
    generalize w1.heap.size = b6 at *
    clear w1
    go_loopw [1] (fun v wr => ∃ k : Nat, k ≤ l.length ∧ v = .int .i64 k ∧ angleR okAddr (l.drop k) = R ∧ W = wr) (fun v _ => l.length - (intOf v).toNat)
    case atStart => exact ⟨i, hi, rfl, hR, rfl⟩
    case round =>
      clear hR
      obtain ⟨k, hk, rfl, hR, rfl⟩ := hrel
      have f0 := kR.at 0 _ rfl
      have f1 := kR.at 1 _ rfl
      have f2 := kR.free 0 _ rfl
      have f3 := kR.free 1 _ rfl
      by_cases hlt : k < l.length
      · obtain ⟨ad, e1, x0, xj⟩ := flat_at hrW k hlt
        have p0 := x0 _ rfl; have p1 := xj 1 _ (by decide) rfl; have p2 := xj 2 _ (by decide) rfl; have p3 := xj 3 _ (by decide) rfl
        clear x0 xj
        rw [List.drop_eq_getElem_cons hlt, angleR] at hR
        have i0 : (0 : Int) ≤ (k : Int) := by omega
        have i1 : (k : Int) < (l.length : Int) := by omega
        generalize l[k] = b0 at *
        obtain ⟨t0, u0, v0, a0⟩ := b0
        simp only at p0 p1 p2 p3 hR
        by_cases h1 : u0 = true ∨ v0 = true
        · rw [if_pos h1] at hR
          have hR := Lib.hid hR
          subst e1
          rcases (by cases u0 <;> simp_all : u0 = true ∨ (u0 = false ∧ v0 = true)) with rfl | ⟨rfl, rfl⟩
          all_goals
            clear h1
            go_wp2_with fail
            go_roundw
            case rel => exact ⟨k + 1, hlt, by go_num, hR.out, by trivial⟩
            case measure => simp [intOf]; omega
        · rw [if_neg h1] at hR
          obtain ⟨rfl, rfl⟩ : u0 = false ∧ v0 = false := by cases u0 <;> cases v0 <;> simp_all
          clear h1
          by_cases h60 : t0 = ⟨#[60]⟩
          · rw [if_pos h60] at hR
            have q60 := lit_yes (l := [60]) h60
            have HP := fun W hr => plainAt_calls A c l (k + 1) W hr hlt (by omega) hs
            have hpr := fun a r => plain_rest (ok := okAddr) (l := l) (i := k + 1) (a := a) (r := r)
            clear h60
            subst e1
            have had : ad.block < w.heap.size := by
              obtain ⟨ad', e1, y0, _⟩ := flat_at hr k hlt
              obtain rfl := Option.some.inj e1
              have := lt_of_cell' (y0 _ rfl)
              rwa [add_block] at this
            generalize plainR okAddr (l.drop (k + 1)) = P2 at *
            have HP := Lib.hid HP
            cases P2 with
            | none =>
              simp only at hR
              subst hR
              go_wp2_with fail
              refine (HP.out _ hrW).mono ?_
              intro e w2 hw2
              obtain ⟨rfl, hb2⟩ : _ ∧ _ := hw2
              have kR2 := kR.below hb2 kR.lt
              have kT2 := kT.below hb2 kT.lt
              have bb2 := bb.trans (hb2.mono bb.size)
              have g0 := kR2.at 0 _ rfl
              have g1 := kR2.at 1 _ rfl
              have g2 := kR2.free 0 _ rfl
              have g3 := kR2.free 1 _ rfl
              have g4 := kT2.at 0 _ rfl
              have g5 := kT2.at 1 _ rfl
              have g6 := kT2.free 0 _ rfl
              have g7 := kT2.free 1 _ rfl
              have n1 : ¬ b6 = w.heap.size := by omega
              have n2 : ¬ w.heap.size = b6 := by omega
              go_wp2_with fail
              refine bodyPost_ret (v := .tuple #[.agg #[.string ⟨#[]⟩, .string ⟨#[]⟩], .int .i64 (-1)]) (by simp [results, Tryd.results151, go_sem, *]) rfl ?_
              exact ⟨rfl, (by repeat (first | exact Below.refl _ _ | apply below_alloc | apply pw_below_drewN | apply below_drew1 | (refine Below.setCell ?_ (by first | (simp; done) | (simp; omega) | omega) _) | exact bb2))⟩
            | some x =>
              obtain ⟨a, rest⟩ := x
              obtain ⟨hk3, hrest⟩ := hpr a rest rfl
              clear hpr
              have hhead : (l.drop (k + 1)).head? = some l[k + 1] := by rw [List.drop_eq_getElem_cons (by omega : k + 1 < l.length)]; rfl
              rw [hhead] at hR
              clear hhead
              obtain ⟨ad1, e1, y0, yj⟩ := flat_at hrW (k + 1) (by omega)
              obtain rfl := Option.some.inj e1
              have y3 := yj 3 _ (by decide) rfl
              clear y0 yj
              have i3 : (k : Int) + 1 < (l.length : Int) := by omega
              by_cases hk4 : k + 1 + 4 - 1 < l.length
              · obtain ⟨ad2, e2, v0_, vj⟩ := flat_at hrW (k + 4) (by omega)
                obtain rfl := Option.some.inj e2
                have v0 := v0_ _ rfl
                have v3 := vj 3 _ (by decide) rfl
                clear v0_ vj
                rw [show k + 1 + 3 = k + 4 by omega, List.drop_eq_getElem_cons (by omega : k + 4 < l.length)] at hrest
                subst hrest
                simp only at hR
                have i4 : (k : Int) + 4 < (l.length : Int) := by omega
                generalize l[k + 1] = b1 at *
                generalize l[k + 4] = g at *
                obtain ⟨t1, u1, w1_, a1⟩ := b1
                obtain ⟨tg, ug, vg, ag⟩ := g
                simp only at y3 v0 v3 hR
                have hR := Lib.hid hR
                cases a1 with
                | true =>
                  obtain rfl : none = R := by simpa using hR.out
                  go_wp2_with fail
                  refine (HP.out _ hrW).mono ?_
                  intro e w2 hw2
                  obtain ⟨rfl, hb2⟩ : _ ∧ _ := hw2
                  have kR2 := kR.below hb2 kR.lt
                  have kT2 := kT.below hb2 kT.lt
                  have bb2 := bb.trans (hb2.mono bb.size)
                  have g0 := kR2.at 0 _ rfl
                  have g1 := kR2.at 1 _ rfl
                  have g2 := kR2.free 0 _ rfl
                  have g3 := kR2.free 1 _ rfl
                  have g4 := kT2.at 0 _ rfl
                  have g5 := kT2.at 1 _ rfl
                  have g6 := kT2.free 0 _ rfl
                  have g7 := kT2.free 1 _ rfl
                  have n1 : ¬ b6 = w.heap.size := by omega
                  have n2 : ¬ w.heap.size = b6 := by omega
                  have y3' := cell_other' (c := b6) (j := 1) (cell_other' (c := b6) (j := 0) ((hb2.cell (lt_of_cell' y3)).trans y3) (by simp [add_block]; omega) (.string a.loc)) (by simp [add_block]; omega) (.string a.dom)
                  try have v0' := cell_other' (c := b6) (j := 1) (cell_other' (c := b6) (j := 0) ((hb2.cell (lt_of_cell' v0)).trans v0) (by simp [add_block]; omega) (.string a.loc)) (by simp [add_block]; omega) (.string a.dom)
                  try have v3' := cell_other' (c := b6) (j := 1) (cell_other' (c := b6) (j := 0) ((hb2.cell (lt_of_cell' v3)).trans v3) (by simp [add_block]; omega) (.string a.loc)) (by simp [add_block]; omega) (.string a.dom)
                  go_wp2_with fail
                  refine bodyPost_ret (v := .tuple #[.agg #[.string ⟨#[]⟩, .string ⟨#[]⟩], .int .i64 (-1)]) (by simp [results, Tryd.results151, go_sem, *]) rfl ?_
                  exact ⟨rfl, (by repeat (first | exact Below.refl _ _ | apply below_alloc | apply pw_below_drewN | apply below_drew1 | (refine Below.setCell ?_ (by first | (simp; done) | (simp; omega) | omega) _) | exact bb2))⟩
                | false =>
                  by_cases ht : tg = ⟨#[62]⟩
                  · have q62 := lit_yes (l := [62]) ht
                    cases ag with
                    | true =>
                      obtain rfl : none = R := by simpa using hR.out
                      clear ht
                      go_wp2_with fail
                      refine (HP.out _ hrW).mono ?_
                      intro e w2 hw2
                      obtain ⟨rfl, hb2⟩ : _ ∧ _ := hw2
                      have kR2 := kR.below hb2 kR.lt
                      have kT2 := kT.below hb2 kT.lt
                      have bb2 := bb.trans (hb2.mono bb.size)
                      have g0 := kR2.at 0 _ rfl
                      have g1 := kR2.at 1 _ rfl
                      have g2 := kR2.free 0 _ rfl
                      have g3 := kR2.free 1 _ rfl
                      have g4 := kT2.at 0 _ rfl
                      have g5 := kT2.at 1 _ rfl
                      have g6 := kT2.free 0 _ rfl
                      have g7 := kT2.free 1 _ rfl
                      have n1 : ¬ b6 = w.heap.size := by omega
                      have n2 : ¬ w.heap.size = b6 := by omega
                      have y3' := cell_other' (c := b6) (j := 1) (cell_other' (c := b6) (j := 0) ((hb2.cell (lt_of_cell' y3)).trans y3) (by simp [add_block]; omega) (.string a.loc)) (by simp [add_block]; omega) (.string a.dom)
                      try have v0' := cell_other' (c := b6) (j := 1) (cell_other' (c := b6) (j := 0) ((hb2.cell (lt_of_cell' v0)).trans v0) (by simp [add_block]; omega) (.string a.loc)) (by simp [add_block]; omega) (.string a.dom)
                      try have v3' := cell_other' (c := b6) (j := 1) (cell_other' (c := b6) (j := 0) ((hb2.cell (lt_of_cell' v3)).trans v3) (by simp [add_block]; omega) (.string a.loc)) (by simp [add_block]; omega) (.string a.dom)
                      go_wp2_with fail
                      refine bodyPost_ret (v := .tuple #[.agg #[.string ⟨#[]⟩, .string ⟨#[]⟩], .int .i64 (-1)]) (by simp [results, Tryd.results151, go_sem, *]) rfl ?_
                      exact ⟨rfl, (by repeat (first | exact Below.refl _ _ | apply below_alloc | apply pw_below_drewN | apply below_drew1 | (refine Below.setCell ?_ (by first | (simp; done) | (simp; omega) | omega) _) | exact bb2))⟩
                    | false =>
                      obtain rfl : some (a, l.drop (k + 5)) = R := by simpa [ht] using hR.out
                      clear ht
                      go_wp2_with fail
                      refine (HP.out _ hrW).mono ?_
                      intro e w2 hw2
                      obtain ⟨rfl, hb2⟩ : _ ∧ _ := hw2
                      have kR2 := kR.below hb2 kR.lt
                      have kT2 := kT.below hb2 kT.lt
                      have bb2 := bb.trans (hb2.mono bb.size)
                      have g0 := kR2.at 0 _ rfl
                      have g1 := kR2.at 1 _ rfl
                      have g2 := kR2.free 0 _ rfl
                      have g3 := kR2.free 1 _ rfl
                      have g4 := kT2.at 0 _ rfl
                      have g5 := kT2.at 1 _ rfl
                      have g6 := kT2.free 0 _ rfl
                      have g7 := kT2.free 1 _ rfl
                      have n1 : ¬ b6 = w.heap.size := by omega
                      have n2 : ¬ w.heap.size = b6 := by omega
                      have y3' := cell_other' (c := b6) (j := 1) (cell_other' (c := b6) (j := 0) ((hb2.cell (lt_of_cell' y3)).trans y3) (by simp [add_block]; omega) (.string a.loc)) (by simp [add_block]; omega) (.string a.dom)
                      try have v0' := cell_other' (c := b6) (j := 1) (cell_other' (c := b6) (j := 0) ((hb2.cell (lt_of_cell' v0)).trans v0) (by simp [add_block]; omega) (.string a.loc)) (by simp [add_block]; omega) (.string a.dom)
                      try have v3' := cell_other' (c := b6) (j := 1) (cell_other' (c := b6) (j := 0) ((hb2.cell (lt_of_cell' v3)).trans v3) (by simp [add_block]; omega) (.string a.loc)) (by simp [add_block]; omega) (.string a.dom)
                      go_wp2_with fail
                      refine bodyPost_ret (v := .tuple #[.agg #[.string a.loc, .string a.dom], .int .i64 ((k : Int) + 5)]) (by simp [results, Tryd.results151, go_sem, *]) rfl ?_
                      exact ⟨k + 5, by simp, by omega, rfl, (by repeat (first | exact Below.refl _ _ | apply below_alloc | apply pw_below_drewN | apply below_drew1 | (refine Below.setCell ?_ (by first | (simp; done) | (simp; omega) | omega) _) | exact bb2))⟩
                  · have q62 := lit_no (l := [62]) ht
                    obtain rfl : none = R := by simpa [ht] using hR.out
                    clear ht
                    go_wp2_with fail
                    refine (HP.out _ hrW).mono ?_
                    intro e w2 hw2
                    obtain ⟨rfl, hb2⟩ : _ ∧ _ := hw2
                    have kR2 := kR.below hb2 kR.lt
                    have kT2 := kT.below hb2 kT.lt
                    have bb2 := bb.trans (hb2.mono bb.size)
                    have g0 := kR2.at 0 _ rfl
                    have g1 := kR2.at 1 _ rfl
                    have g2 := kR2.free 0 _ rfl
                    have g3 := kR2.free 1 _ rfl
                    have g4 := kT2.at 0 _ rfl
                    have g5 := kT2.at 1 _ rfl
                    have g6 := kT2.free 0 _ rfl
                    have g7 := kT2.free 1 _ rfl
                    have n1 : ¬ b6 = w.heap.size := by omega
                    have n2 : ¬ w.heap.size = b6 := by omega
                    have y3' := cell_other' (c := b6) (j := 1) (cell_other' (c := b6) (j := 0) ((hb2.cell (lt_of_cell' y3)).trans y3) (by simp [add_block]; omega) (.string a.loc)) (by simp [add_block]; omega) (.string a.dom)
                    try have v0' := cell_other' (c := b6) (j := 1) (cell_other' (c := b6) (j := 0) ((hb2.cell (lt_of_cell' v0)).trans v0) (by simp [add_block]; omega) (.string a.loc)) (by simp [add_block]; omega) (.string a.dom)
                    try have v3' := cell_other' (c := b6) (j := 1) (cell_other' (c := b6) (j := 0) ((hb2.cell (lt_of_cell' v3)).trans v3) (by simp [add_block]; omega) (.string a.loc)) (by simp [add_block]; omega) (.string a.dom)
                    go_wp2_with fail
                    refine bodyPost_ret (v := .tuple #[.agg #[.string ⟨#[]⟩, .string ⟨#[]⟩], .int .i64 (-1)]) (by simp [results, Tryd.results151, go_sem, *]) rfl ?_
                    exact ⟨rfl, (by repeat (first | exact Below.refl _ _ | apply below_alloc | apply pw_below_drewN | apply below_drew1 | (refine Below.setCell ?_ (by first | (simp; done) | (simp; omega) | omega) _) | exact bb2))⟩
              · rw [List.drop_eq_nil_of_le (by omega)] at hrest
                subst hrest
                simp only at hR
                subst hR
                have i4 : (l.length : Int) ≤ (k : Int) + 4 := by omega
                generalize l[k + 1] = b1 at *
                obtain ⟨t1, u1, w1_, a1⟩ := b1
                simp only at y3
                cases a1 with
                | true =>
                  go_wp2_with fail
                  refine (HP.out _ hrW).mono ?_
                  intro e w2 hw2
                  obtain ⟨rfl, hb2⟩ : _ ∧ _ := hw2
                  have kR2 := kR.below hb2 kR.lt
                  have kT2 := kT.below hb2 kT.lt
                  have bb2 := bb.trans (hb2.mono bb.size)
                  have g0 := kR2.at 0 _ rfl
                  have g1 := kR2.at 1 _ rfl
                  have g2 := kR2.free 0 _ rfl
                  have g3 := kR2.free 1 _ rfl
                  have g4 := kT2.at 0 _ rfl
                  have g5 := kT2.at 1 _ rfl
                  have g6 := kT2.free 0 _ rfl
                  have g7 := kT2.free 1 _ rfl
                  have n1 : ¬ b6 = w.heap.size := by omega
                  have n2 : ¬ w.heap.size = b6 := by omega
                  have y3' := cell_other' (c := b6) (j := 1) (cell_other' (c := b6) (j := 0) ((hb2.cell (lt_of_cell' y3)).trans y3) (by simp [add_block]; omega) (.string a.loc)) (by simp [add_block]; omega) (.string a.dom)
                  try have v0' := cell_other' (c := b6) (j := 1) (cell_other' (c := b6) (j := 0) ((hb2.cell (lt_of_cell' v0)).trans v0) (by simp [add_block]; omega) (.string a.loc)) (by simp [add_block]; omega) (.string a.dom)
                  try have v3' := cell_other' (c := b6) (j := 1) (cell_other' (c := b6) (j := 0) ((hb2.cell (lt_of_cell' v3)).trans v3) (by simp [add_block]; omega) (.string a.loc)) (by simp [add_block]; omega) (.string a.dom)
                  go_wp2_with fail
                  refine bodyPost_ret (v := .tuple #[.agg #[.string ⟨#[]⟩, .string ⟨#[]⟩], .int .i64 (-1)]) (by simp [results, Tryd.results151, go_sem, *]) rfl ?_
                  exact ⟨rfl, (by repeat (first | exact Below.refl _ _ | apply below_alloc | apply pw_below_drewN | apply below_drew1 | (refine Below.setCell ?_ (by first | (simp; done) | (simp; omega) | omega) _) | exact bb2))⟩
                | false =>
                  go_wp2_with fail
                  refine (HP.out _ hrW).mono ?_
                  intro e w2 hw2
                  obtain ⟨rfl, hb2⟩ : _ ∧ _ := hw2
                  have kR2 := kR.below hb2 kR.lt
                  have kT2 := kT.below hb2 kT.lt
                  have bb2 := bb.trans (hb2.mono bb.size)
                  have g0 := kR2.at 0 _ rfl
                  have g1 := kR2.at 1 _ rfl
                  have g2 := kR2.free 0 _ rfl
                  have g3 := kR2.free 1 _ rfl
                  have g4 := kT2.at 0 _ rfl
                  have g5 := kT2.at 1 _ rfl
                  have g6 := kT2.free 0 _ rfl
                  have g7 := kT2.free 1 _ rfl
                  have n1 : ¬ b6 = w.heap.size := by omega
                  have n2 : ¬ w.heap.size = b6 := by omega
                  have y3' := cell_other' (c := b6) (j := 1) (cell_other' (c := b6) (j := 0) ((hb2.cell (lt_of_cell' y3)).trans y3) (by simp [add_block]; omega) (.string a.loc)) (by simp [add_block]; omega) (.string a.dom)
                  try have v0' := cell_other' (c := b6) (j := 1) (cell_other' (c := b6) (j := 0) ((hb2.cell (lt_of_cell' v0)).trans v0) (by simp [add_block]; omega) (.string a.loc)) (by simp [add_block]; omega) (.string a.dom)
                  try have v3' := cell_other' (c := b6) (j := 1) (cell_other' (c := b6) (j := 0) ((hb2.cell (lt_of_cell' v3)).trans v3) (by simp [add_block]; omega) (.string a.loc)) (by simp [add_block]; omega) (.string a.dom)
                  go_wp2_with fail
                  refine bodyPost_ret (v := .tuple #[.agg #[.string ⟨#[]⟩, .string ⟨#[]⟩], .int .i64 (-1)]) (by simp [results, Tryd.results151, go_sem, *]) rfl ?_
                  exact ⟨rfl, (by repeat (first | exact Below.refl _ _ | apply below_alloc | apply pw_below_drewN | apply below_drew1 | (refine Below.setCell ?_ (by first | (simp; done) | (simp; omega) | omega) _) | exact bb2))⟩
          · rw [if_neg h60] at hR
            have q60 := lit_no (l := [60]) h60
            subst hR e1
            clear h60
            go_wp2_with fail
            refine bodyPost_ret (v := .tuple #[.agg #[.string ⟨#[]⟩, .string ⟨#[]⟩], .int .i64 (-1)]) (by simp [results, Tryd.results151, go_sem, *]) rfl ?_
            exact ⟨rfl, (by repeat (first | exact Below.refl _ _ | apply below_alloc | apply pw_below_drewN | apply below_drew1 | (refine Below.setCell ?_ (by first | (simp; done) | (simp; omega) | omega) _) | exact bb))⟩
      · obtain rfl : k = l.length := by omega
        rw [List.drop_eq_nil_of_le (Nat.le_refl _), angleR] at hR
        subst hR
        go_wp2_with fail
        refine bodyPost_ret (v := .tuple #[.agg #[.string ⟨#[]⟩, .string ⟨#[]⟩], .int .i64 (-1)]) (by simp [results, Tryd.results151, go_sem, *]) rfl ?_
        exact ⟨rfl, (by repeat (first | exact Below.refl _ _ | apply below_alloc | apply pw_below_drewN | apply below_drew1 | (refine Below.setCell ?_ (by first | (simp; done) | (simp; omega) | omega) _) | exact bb))⟩
end Go.Proofs.YtijdghplfhfpaaaDoor.H

/- Lists of addresses: the reference's listOf, ListOf; both sides' answers: the walks. -/
namespace Go.Proofs.YtijdghplfhfpaaaDoor.H
open Go.RowKit Go.Proofs.YtijdghplfhfpaaaDoorW.PrintWords Go.Proofs.YtijdghplfhfpaaaDoorW.PrintLast Go.Proofs.YtijdghplfhfpaaaDoor.U
set_option linter.unusedVariables false
set_option linter.unusedSimpArgs false
theorem bits_size (s : ByteArray) : ∀ n i ap l, s.size - i ≤ n → i ≤ s.size → bitsP s i ap = some l → l.length ≤ s.size - i ∧ ∀ b ∈ l, b.text.size ≤ s.size := by
  intro n
  induction n with
  | zero =>
    intro i ap l h1 h2 h
    rw [bits_end s i ap (by omega)] at h
    cases h; simp
  | succ n ih =>
    intro i ap l h1 h2 h
    by_cases hlt : i < s.size
    · cases hb : blankB s[i].toNat with
      | true =>
        rw [bits_blank s i ap hlt hb] at h
        have := ih (i + 1) true l (by omega) hlt h
        exact ⟨by omega, this.2⟩
      | false =>
        cases hr : runB s[i].toNat with
        | true =>
          have hlt2 : i < spanEnd runB s i := by rw [spanEnd_yes runB hlt hr]; have := span_ge runB s (i + 1) (by omega); omega
          have hle := span_le runB s i h2
          rw [bits_run s i ap hlt2 h2] at h
          obtain ⟨l1, hl1, rfl⟩ := Option.map_eq_some_iff.1 h
          have := ih _ false l1 (by omega) hle hl1
          refine ⟨by simp; omega, fun b hb => ?_⟩
          rcases List.mem_cons.1 hb with rfl | hb
          · simp only; rw [ext_size hle]; omega
          · exact this.2 b hb
        | false =>
          by_cases hq : s[i].toNat = 34
          · rw [bits_quoted s i ap hlt hq] at h
            cases hk : qEnd s (i + 1) with
            | none => rw [hk] at h; cases h
            | some k =>
              rw [hk] at h
              simp only [Option.bind_some] at h
              obtain ⟨l1, hl1, rfl⟩ := Option.map_eq_some_iff.1 h
              have hgt := qEnd_gt s _ _ _ (Nat.le_refl _) hk
              have := ih k false l1 (by omega) hgt.2 hl1
              refine ⟨by simp; omega, fun b hb => ?_⟩
              rcases List.mem_cons.1 hb with rfl | hb
              · exact Nat.zero_le _
              · exact this.2 b hb
          · rw [bits_one s i ap hlt hb hr hq] at h
            obtain ⟨l1, hl1, rfl⟩ := Option.map_eq_some_iff.1 h
            have := ih (i + 1) false l1 (by omega) hlt hl1
            refine ⟨by simp; omega, fun b hb => ?_⟩
            rcases List.mem_cons.1 hb with rfl | hb
            · show 1 ≤ s.size; omega
            · exact this.2 b hb
    · rw [bits_end s i ap hlt] at h
      cases h; simp
theorem below_alloc' {B : Nat} {w w1 : World} (h : Below B w w1) (hB : B ≤ w1.heap.size) (o : Obj) : Below B w (w1.alloc o) := Below.alloc h hB o
/-- The reference's list, and whether it is in form. -/
def PostLo (w : World) (R : Option (List AAddress)) (e : Ending) (w' : World) : Prop :=
  match R with
  | some l => ∃ v : Value, e = .returned (.tuple #[v, .bool true]) ∧ Kd.R kAAddress 49 w' w.heap.size (fun _ => True) v l ∧ Below w.heap.size w w'
  | none => e = .returned (.tuple #[.slice none 0 0, .bool false]) ∧ Below w.heap.size w w'
set_option maxHeartbeats 4000000 in
set_option maxRecDepth 100000 in
theorem listOf_calls (s : ByteArray) (w : World) (hs : s.size ≤ 1048576) :
    Calls Tryd.prog 88 #[.string s] w (PostLo w (listP okAddr s 0)) := by
  rw [list_law okAddr_empty]
  have HB := fun w => bitsOf_calls s w hs
  have hbs := fun l => bits_size s _ 0 false l (Nat.le_refl _) (Nat.zero_le _)
  generalize bitsP s 0 false = B at *
  have HB := Lib.hid HB
  cases B with
  | none =>
    clear hbs
    simp only [Option.bind_none]
    go_enter Tryd.func88, Tryd.ntmps88
    go_wp2_with fail
    refine (HB.out _).mono ?_
    intro e w1 hw1
    obtain ⟨v, rfl, hb1⟩ : ∃ v, _ ∧ _ := hw1
    go_wp2_with fail
    go_ret2
    exact ⟨rfl, hb1⟩
  | some l =>
    obtain ⟨hl, htx⟩ := hbs l rfl
    have htx : ∀ b ∈ l, b.text.size ≤ 1048576 := fun b hb => by have := htx b hb; omega
    clear hbs
    simp only [Option.bind_some]
    generalize hR : listR okAddr l = R
    go_enter Tryd.func88, Tryd.ntmps88
    go_wp2_with fail
    refine (HB.out _).mono ?_
    intro e w1 hw1
    obtain ⟨v, rfl, hRow, hb1⟩ : ∃ v, _ ∧ _ ∧ _ := hw1
    obtain ⟨A, c, rfl, hlc, hrl⟩ := C_of hRow
    clear hRow HB
    have zb := hb1.size
    go_wp2_with fail
    go_loopw [6, 7] (fun v vi wr => ∃ (k : Nat) (acc : List AAddress), k ≤ l.length ∧ vi = .int .i64 k ∧ Kd.R kAAddress 49 wr w1.heap.size (fun _ => True) v acc ∧ (listR okAddr (l.drop k)).map (acc ++ ·) = R ∧ acc.length ≤ k ∧ Below w1.heap.size w1 wr) (fun _ vi _ => l.length - (intOf vi).toNat)
    case atStart => exact ⟨0, [], Nat.zero_le _, rfl, Kd.R_nil _ _ _ _ _, by rw [List.drop_zero, hR]; cases R <;> rfl, Nat.le_refl _, Below.refl _ _⟩
    case round =>
      clear hR
      obtain ⟨k, acc, hk, rfl, hRow, hR, hacc, hB⟩ := hrel
      obtain ⟨A0, cap0, rfl⟩ := Kd.R_slice hRow
      have HA := Lib.hid (fun W hr => addressAt_calls A c l k W hr hk (by omega) htx)
      rw [listR] at hR
      have hlen := fun a r => addrR_len (ok := okAddr) (l := l.drop k) (r := r) (a := a)
      have hrw := Kd.C_below hrl hB
      have hbw : Below w.heap.size w wr := hb1.trans (hB.mono zb)
      have zw := hB.size
      generalize addrR okAddr (l.drop k) = AA at *
      cases AA with
      | none =>
        simp only [Option.map_none] at hR
        subst hR
        go_wp2_with fail
        refine (HA.out _ hrw).mono ?_
        intro e w2 hw2
        obtain ⟨rfl, hb2⟩ : _ ∧ _ := hw2
        go_wp2_with fail
        go_ret2
        exact ⟨rfl, (by repeat (first | exact Below.refl _ _ | apply below_alloc | apply pw_below_drewN | apply below_drew1 | (refine Below.setCell ?_ (by first | (simp; done) | (simp; omega) | omega) _) | (refine below_then ?_ (by first | (simp; done) | (simp; omega) | omega) hb2) | exact hbw))⟩
      | some x =>
        obtain ⟨a, r⟩ := x
        have hlen := hlen a r rfl
        go_wp2_with fail
        refine (HA.out _ hrw).mono ?_
        intro e w2 hw2
        obtain ⟨d, rfl, hd, rfl, hb2⟩ : ∃ d, _ ∧ _ ∧ _ ∧ _ := hw2
        have hRow2 := Kd.R_alloc (Kd.R_below hRow hb2) (.cells #[.string a.loc, .string a.dom] 49)
        have z2 := hb2.size
        have hbw2 : Below w.heap.size w w2 := hbw.trans (hb2.mono (by omega))
        have hbr2 : Below w1.heap.size w1 w2 := hB.trans (hb2.mono zw)
        rw [List.length_drop, List.length_drop] at hlen
        have e0 : decide ((d : Int) < 0) = false := by rw [decide_eq_false_iff_not]; omega
        by_cases hdl : d = l.length
        · subst hdl
          rw [List.drop_eq_nil_of_le (Nat.le_refl _)] at hR
          simp only [Option.map_some] at hR
          subst hR
          go_wp2_with (at_builtin; refine snoc_list rowAAddress w1.heap.size rfl _ _ rfl (.slice A0 acc.length cap0) acc a [.string a.loc, .string a.dom] rfl (by simp [Act.eval]) rfl hRow2 (by first | (simp; done) | (simp; omega) | omega) (by omega) ?_; intro v1 w3 hR1 hb3 hg3)
          go_ret2
          exact ⟨_, rfl, Kd.R_lower hR1 zb, (below_alloc' hbw2 (by omega) _).trans (hb3.mono zb)⟩
        · have hdlt : d < l.length := by omega
          obtain ⟨ad, e1, x0, xj⟩ := flat_at hrl d hdlt
          subst e1
          have p0 := x0 _ rfl
          have pb := lt_of_cell' p0
          clear x0 xj
          have p2 := (hbr2.cell pb).trans p0
          rw [List.drop_eq_getElem_cons hdlt] at hR
          simp only at hR
          have e1 : ((d : Int) == l.length) = false := by rw [beq_eq_false_iff_ne]; omega
          have i0 : (0 : Int) ≤ (d : Int) := by omega
          have i1 : (d : Int) < (l.length : Int) := by omega
          generalize l[d] = b0 at *
          obtain ⟨t0, u0, v0, a0⟩ := b0
          simp only at p0 p2 hR
          by_cases h44 : t0 = ⟨#[44]⟩
          · rw [if_pos ⟨h44, by rw [List.length_drop, List.length_drop]; omega⟩] at hR
            have q44 := lit_yes (l := [44]) h44
            have hR := Lib.hid hR
            clear h44
            go_wp2_with (at_builtin; refine snoc_list rowAAddress w1.heap.size rfl _ _ rfl (.slice A0 acc.length cap0) acc a [.string a.loc, .string a.dom] rfl (by simp [Act.eval]) rfl hRow2 (by first | (simp; done) | (simp; omega) | omega) (by omega) ?_; intro v1 w3 hR1 hb3 hg3; have p3 := (hb3.cell pb).trans (cell_alloc' p2 (.cells #[.string a.loc, .string a.dom] 49)))
            go_roundw
            case rel =>
              refine ⟨d + 1, acc ++ [a], hdlt, by go_num, hR1, ?_, by simp; omega, (below_alloc' hbr2 (by omega) _).trans hb3⟩
              rw [← hR.out]
              cases listR okAddr (l.drop (d + 1)) <;> simp
            case measure => simp [intOf]; omega
          · rw [if_neg (fun h => h44 h.1)] at hR
            simp only [Option.map_none] at hR
            subst hR
            have q44 := lit_no (l := [44]) h44
            clear h44
            go_wp2_with (at_builtin; refine snoc_list rowAAddress w1.heap.size rfl _ _ rfl (.slice A0 acc.length cap0) acc a [.string a.loc, .string a.dom] rfl (by simp [Act.eval]) rfl hRow2 (by first | (simp; done) | (simp; omega) | omega) (by omega) ?_; intro v1 w3 hR1 hb3 hg3; have p3 := (hb3.cell pb).trans (cell_alloc' p2 (.cells #[.string a.loc, .string a.dom] 49)))
            go_ret2
            exact ⟨rfl, (below_alloc' hbw2 (by omega) _).trans (hb3.mono zb)⟩
end Go.Proofs.YtijdghplfhfpaaaDoor.H

/- Entries: the walk of the reference's EntryFault. -/
namespace Go.Proofs.YtijdghplfhfpaaaDoor.H
open Go.RowKit Go.Proofs.YtijdghplfhfpaaaDoorW.PrintWords Go.Proofs.YtijdghplfhfpaaaDoorW.PrintLast Go.Proofs.YtijdghplfhfpaaaDoor.U
set_option linter.unusedVariables false
set_option linter.unusedSimpArgs false
theorem spool_one {s : ByteArray} {l : List AAddress} (hs : s.size ≤ 100) (h : listP okAddr s 0 = some l) : spoolFault s = if l.length = 1 then 0 else 3 := by
  have hv : listV s = listRes (some l) := by rw [listV, if_neg (by omega), h]
  rw [spoolFault, hv]
  by_cases h1 : l.length = 1
  · rw [if_pos h1, listRes, if_neg (show ¬ 20 < l.length by omega), if_pos ⟨rfl, h1, hs⟩]
  · rw [if_neg h1, listRes]
    by_cases h2 : 20 < l.length
    · rw [if_pos h2, if_neg (fun h => by cases h.1)]
    · rw [if_neg h2, if_neg (fun h => h1 h.2.1)]
theorem spool_none {s : ByteArray} (h : listP okAddr s 0 = none) : spoolFault s = 3 := by
  rw [spoolFault, if_neg]
  intro hh
  have := hh.1
  rw [listV] at this
  split at this
  · cases this
  · rw [h, listRes] at this; cases this
theorem spool_long {s : ByteArray} (h : 100 < s.size) : spoolFault s = 3 := by
  rw [spoolFault, if_neg (fun h2 => by omega)]
theorem eqb_form {k u f u2 f2 : Int} {bx t x bx2 t2 x2 : ByteArray} : eqbAEntry ⟨k, bx, u, f, t, x⟩ ⟨k, bx2, u2, f2, t2, x2⟩ = true ↔ bx = bx2 ∧ u = u2 ∧ f = f2 ∧ t = t2 ∧ x = x2 := by
  rw [eqbAEntry_iff]; simp
theorem eqb_not {k u f u2 f2 : Int} {bx t x bx2 t2 x2 : ByteArray} (h : ¬ (bx = bx2 ∧ u = u2 ∧ f = f2 ∧ t = t2 ∧ x = x2)) : eqbAEntry ⟨k, bx, u, f, t, x⟩ ⟨k, bx2, u2, f2, t2, x2⟩ = false := by
  rw [← Bool.not_eq_true, eqb_form]; exact h
set_option maxHeartbeats 8000000 in
set_option maxRecDepth 100000 in
theorem fault_1 (bx : ByteArray) (u f : Int) (to_ tx : ByteArray) (w : World) (hb : bx.size ≤ 1048576) (ht : to_.size ≤ 1048576) (hx : tx.size ≤ 1048576) :
    Calls Tryd.prog 53 #[.agg #[.int .i64 1, .string bx, .int .i64 u, .int .i64 f, .string to_, .string tx]] w fun e w' => e = .returned (.int .i64 (entryFault ⟨1, bx, u, f, to_, tx⟩)) ∧ Below w.heap.size w w' := by
  have hk : ¬ ((⟨1, bx, u, f, to_, tx⟩ : AEntry).kind < 1 ∨ 6 < (⟨1, bx, u, f, to_, tx⟩ : AEntry).kind) := by show ¬ ((1 : Int) < 1 ∨ 6 < (1 : Int)); omega
  have hbare : bareE ⟨1, bx, u, f, to_, tx⟩ = (⟨1, bx, 0, 0, ⟨#[]⟩, ⟨#[]⟩⟩ : AEntry) := rfl
  have h3 := fun h => ef_form (x := ⟨1, bx, u, f, to_, tx⟩) hk h
  have h6 := fun h h2 => ef_range (x := ⟨1, bx, u, f, to_, tx⟩) hk h h2
  have h1 := fun h h2 h3 => ef_size (x := ⟨1, bx, u, f, to_, tx⟩) hk h h2 h3
  have h0 := fun h h2 h3 => ef_tail (x := ⟨1, bx, u, f, to_, tx⟩) hk h h2 h3
  rw [hbare] at h3 h6 h1 h0
  simp only at h6 h1 h0
  generalize entryFault ⟨1, bx, u, f, to_, tx⟩ = r at *
  clear hbare hk
  by_cases hc : to_ = (⟨#[]⟩ : ByteArray)
  · subst hc
    by_cases hc : tx = (⟨#[]⟩ : ByteArray)
    · subst hc
      by_cases hc : u = 0
      · subst hc
        by_cases hc : f = 0
        · subst hc
          have hq : eqbAEntry (⟨1, bx, 0, 0, ⟨#[]⟩, ⟨#[]⟩⟩ : AEntry) (⟨1, bx, 0, 0, ⟨#[]⟩, ⟨#[]⟩⟩ : AEntry) = true := eqbAEntry_self _
          replace h6 := h6 hq
          replace h1 := h1 hq
          replace h0 := h0 hq
          clear h3 hq
          rcases (by omega : (0 : Int) < 0 ∨ (0 ≤ (0 : Int) ∧ 31 < (0 : Int)) ∨ (0 ≤ (0 : Int) ∧ (0 : Int) ≤ 31 ∧ (0 : Int) < 0) ∨ (0 ≤ (0 : Int) ∧ (0 : Int) ≤ 31 ∧ 0 ≤ (0 : Int) ∧ 1048576 < (0 : Int)) ∨ (0 ≤ (0 : Int) ∧ (0 : Int) ≤ 31 ∧ 0 ≤ (0 : Int) ∧ (0 : Int) ≤ 1048576)) with g1 | ⟨g1, g2⟩ | ⟨g1, g2, g3⟩ | ⟨g1, g2, g3, g4⟩ | ⟨g1, g2, g3, g4⟩
          · first | (exfalso; omega) | (obtain rfl := h6 (by omega); clear h6 h1 h0; go_enter Tryd.func53, Tryd.ntmps53; go_wp2_with (go_at_call 52; first | (refine (in_yes _ _ _ _ (by omega) (by omega)).mono ?_; rintro e w' ⟨rfl, rfl⟩) | (refine (in_no _ _ _ _ (by omega)).mono ?_; rintro e w' ⟨rfl, rfl⟩)); go_ret; exact ⟨(by first | rfl | (simp; done) | (simp [*]; done) | (rw [if_pos (by omega)]; first | rfl | (simp; done)) | (rw [if_neg (by omega)]; first | rfl | (simp; done)) | (simp; omega)), (by repeat (first | exact Below.refl _ _ | apply below_alloc | apply pw_below_drewN | apply below_drew1 | (refine Below.setCell ?_ (by first | (simp; done) | (simp; omega) | omega) _) ))⟩)
          · first | (exfalso; omega) | (obtain rfl := h6 (by omega); clear h6 h1 h0; go_enter Tryd.func53, Tryd.ntmps53; go_wp2_with (go_at_call 52; first | (refine (in_yes _ _ _ _ (by omega) (by omega)).mono ?_; rintro e w' ⟨rfl, rfl⟩) | (refine (in_no _ _ _ _ (by omega)).mono ?_; rintro e w' ⟨rfl, rfl⟩)); go_ret; exact ⟨(by first | rfl | (simp; done) | (simp [*]; done) | (rw [if_pos (by omega)]; first | rfl | (simp; done)) | (rw [if_neg (by omega)]; first | rfl | (simp; done)) | (simp; omega)), (by repeat (first | exact Below.refl _ _ | apply below_alloc | apply pw_below_drewN | apply below_drew1 | (refine Below.setCell ?_ (by first | (simp; done) | (simp; omega) | omega) _) ))⟩)
          · first | (exfalso; omega) | (obtain rfl := h6 (by omega); clear h6 h1 h0; go_enter Tryd.func53, Tryd.ntmps53; go_wp2_with (go_at_call 52; first | (refine (in_yes _ _ _ _ (by omega) (by omega)).mono ?_; rintro e w' ⟨rfl, rfl⟩) | (refine (in_no _ _ _ _ (by omega)).mono ?_; rintro e w' ⟨rfl, rfl⟩)); go_ret; exact ⟨(by first | rfl | (simp; done) | (simp [*]; done) | (rw [if_pos (by omega)]; first | rfl | (simp; done)) | (rw [if_neg (by omega)]; first | rfl | (simp; done)) | (simp; omega)), (by repeat (first | exact Below.refl _ _ | apply below_alloc | apply pw_below_drewN | apply below_drew1 | (refine Below.setCell ?_ (by first | (simp; done) | (simp; omega) | omega) _) ))⟩)
          · first | (exfalso; omega) | (obtain rfl := h6 (by omega); clear h6 h1 h0; go_enter Tryd.func53, Tryd.ntmps53; go_wp2_with (go_at_call 52; first | (refine (in_yes _ _ _ _ (by omega) (by omega)).mono ?_; rintro e w' ⟨rfl, rfl⟩) | (refine (in_no _ _ _ _ (by omega)).mono ?_; rintro e w' ⟨rfl, rfl⟩)); go_ret; exact ⟨(by first | rfl | (simp; done) | (simp [*]; done) | (rw [if_pos (by omega)]; first | rfl | (simp; done)) | (rw [if_neg (by omega)]; first | rfl | (simp; done)) | (simp; omega)), (by repeat (first | exact Below.refl _ _ | apply below_alloc | apply pw_below_drewN | apply below_drew1 | (refine Below.setCell ?_ (by first | (simp; done) | (simp; omega) | omega) _) ))⟩)
          · replace h0 := h0 (by omega) (by decide)
            clear h6 h1
            replace h0 : r = nameFault bx := by rw [h0, if_neg (by omega), nameTail]; simp only; split <;> simp_all
            have HN := fun w => boxName_calls bx w (by omega)
            generalize nameFault bx = nf at *
            subst h0
            have HN := Lib.hid HN
            by_cases hz : r = 0
            · subst hz
              go_enter Tryd.func53, Tryd.ntmps53
              go_wp2_with (first | (go_at_call 52; first | (refine (in_yes _ _ _ _ (by omega) (by omega)).mono ?_; rintro e w' ⟨rfl, rfl⟩) | (refine (in_no _ _ _ _ (by omega)).mono ?_; rintro e w' ⟨rfl, rfl⟩)) | (go_at_call 50; refine (HN.out _).mono ?_; rintro e w1 ⟨rfl, rfl⟩))
              go_ret; exact ⟨(by first | rfl | (simp; done) | (simp [*]; done) | (rw [if_pos (by omega)]; first | rfl | (simp; done)) | (rw [if_neg (by omega)]; first | rfl | (simp; done)) | (simp; omega)), (by repeat (first | exact Below.refl _ _ | apply below_alloc | apply pw_below_drewN | apply below_drew1 | (refine Below.setCell ?_ (by first | (simp; done) | (simp; omega) | omega) _) ))⟩
            · have e1 : (r == 0) = false := by rw [beq_eq_false_iff_ne]; exact hz
              clear hz
              go_enter Tryd.func53, Tryd.ntmps53
              go_wp2_with (first | (go_at_call 52; first | (refine (in_yes _ _ _ _ (by omega) (by omega)).mono ?_; rintro e w' ⟨rfl, rfl⟩) | (refine (in_no _ _ _ _ (by omega)).mono ?_; rintro e w' ⟨rfl, rfl⟩)) | (go_at_call 50; refine (HN.out _).mono ?_; rintro e w1 ⟨rfl, rfl⟩))
              go_ret; exact ⟨(by first | rfl | (simp; done) | (simp [*]; done) | (rw [if_pos (by omega)]; first | rfl | (simp; done)) | (rw [if_neg (by omega)]; first | rfl | (simp; done)) | (simp; omega)), (by repeat (first | exact Below.refl _ _ | apply below_alloc | apply pw_below_drewN | apply below_drew1 | (refine Below.setCell ?_ (by first | (simp; done) | (simp; omega) | omega) _) ))⟩
        · have q_ : (f != 0) = true := by rw [bne_iff_ne]; exact hc
          obtain rfl := h3 (eqb_not (fun h => by simp_all)); clear h3 h6 h1 h0; go_enter Tryd.func53, Tryd.ntmps53; go_wp2_with (go_at_call 52; first | (refine (in_yes _ _ _ _ (by omega) (by omega)).mono ?_; rintro e w' ⟨rfl, rfl⟩) | (refine (in_no _ _ _ _ (by omega)).mono ?_; rintro e w' ⟨rfl, rfl⟩)); go_ret; exact ⟨(by first | rfl | (simp; done) | (simp [*]; done) | (rw [if_pos (by omega)]; first | rfl | (simp; done)) | (rw [if_neg (by omega)]; first | rfl | (simp; done)) | (simp; omega)), (by repeat (first | exact Below.refl _ _ | apply below_alloc | apply pw_below_drewN | apply below_drew1 | (refine Below.setCell ?_ (by first | (simp; done) | (simp; omega) | omega) _) ))⟩
      · have q_ : (u != 0) = true := by rw [bne_iff_ne]; exact hc
        obtain rfl := h3 (eqb_not (fun h => by simp_all)); clear h3 h6 h1 h0; go_enter Tryd.func53, Tryd.ntmps53; go_wp2_with (go_at_call 52; first | (refine (in_yes _ _ _ _ (by omega) (by omega)).mono ?_; rintro e w' ⟨rfl, rfl⟩) | (refine (in_no _ _ _ _ (by omega)).mono ?_; rintro e w' ⟨rfl, rfl⟩)); go_ret; exact ⟨(by first | rfl | (simp; done) | (simp [*]; done) | (rw [if_pos (by omega)]; first | rfl | (simp; done)) | (rw [if_neg (by omega)]; first | rfl | (simp; done)) | (simp; omega)), (by repeat (first | exact Below.refl _ _ | apply below_alloc | apply pw_below_drewN | apply below_drew1 | (refine Below.setCell ?_ (by first | (simp; done) | (simp; omega) | omega) _) ))⟩
    · have q_ := lit_no (l := []) hc
      obtain rfl := h3 (eqb_not (fun h => by simp_all)); clear h3 h6 h1 h0; go_enter Tryd.func53, Tryd.ntmps53; go_wp2_with (go_at_call 52; first | (refine (in_yes _ _ _ _ (by omega) (by omega)).mono ?_; rintro e w' ⟨rfl, rfl⟩) | (refine (in_no _ _ _ _ (by omega)).mono ?_; rintro e w' ⟨rfl, rfl⟩)); go_ret; exact ⟨(by first | rfl | (simp; done) | (simp [*]; done) | (rw [if_pos (by omega)]; first | rfl | (simp; done)) | (rw [if_neg (by omega)]; first | rfl | (simp; done)) | (simp; omega)), (by repeat (first | exact Below.refl _ _ | apply below_alloc | apply pw_below_drewN | apply below_drew1 | (refine Below.setCell ?_ (by first | (simp; done) | (simp; omega) | omega) _) ))⟩
  · have q_ := lit_no (l := []) hc
    obtain rfl := h3 (eqb_not (fun h => by simp_all)); clear h3 h6 h1 h0; go_enter Tryd.func53, Tryd.ntmps53; go_wp2_with (go_at_call 52; first | (refine (in_yes _ _ _ _ (by omega) (by omega)).mono ?_; rintro e w' ⟨rfl, rfl⟩) | (refine (in_no _ _ _ _ (by omega)).mono ?_; rintro e w' ⟨rfl, rfl⟩)); go_ret; exact ⟨(by first | rfl | (simp; done) | (simp [*]; done) | (rw [if_pos (by omega)]; first | rfl | (simp; done)) | (rw [if_neg (by omega)]; first | rfl | (simp; done)) | (simp; omega)), (by repeat (first | exact Below.refl _ _ | apply below_alloc | apply pw_below_drewN | apply below_drew1 | (refine Below.setCell ?_ (by first | (simp; done) | (simp; omega) | omega) _) ))⟩
set_option maxHeartbeats 8000000 in
set_option maxRecDepth 100000 in
theorem fault_2 (bx : ByteArray) (u f : Int) (to_ tx : ByteArray) (w : World) (hb : bx.size ≤ 1048576) (ht : to_.size ≤ 1048576) (hx : tx.size ≤ 1048576) :
    Calls Tryd.prog 53 #[.agg #[.int .i64 2, .string bx, .int .i64 u, .int .i64 f, .string to_, .string tx]] w fun e w' => e = .returned (.int .i64 (entryFault ⟨2, bx, u, f, to_, tx⟩)) ∧ Below w.heap.size w w' := by
  have hk : ¬ ((⟨2, bx, u, f, to_, tx⟩ : AEntry).kind < 1 ∨ 6 < (⟨2, bx, u, f, to_, tx⟩ : AEntry).kind) := by show ¬ ((2 : Int) < 1 ∨ 6 < (2 : Int)); omega
  have hbare : bareE ⟨2, bx, u, f, to_, tx⟩ = (⟨2, bx, 0, f, ⟨#[]⟩, tx⟩ : AEntry) := rfl
  have h3 := fun h => ef_form (x := ⟨2, bx, u, f, to_, tx⟩) hk h
  have h6 := fun h h2 => ef_range (x := ⟨2, bx, u, f, to_, tx⟩) hk h h2
  have h1 := fun h h2 h3 => ef_size (x := ⟨2, bx, u, f, to_, tx⟩) hk h h2 h3
  have h0 := fun h h2 h3 => ef_tail (x := ⟨2, bx, u, f, to_, tx⟩) hk h h2 h3
  rw [hbare] at h3 h6 h1 h0
  simp only at h6 h1 h0
  generalize entryFault ⟨2, bx, u, f, to_, tx⟩ = r at *
  clear hbare hk
  by_cases hc : to_ = (⟨#[]⟩ : ByteArray)
  · subst hc
    by_cases hc : u = 0
    · subst hc
      have hq : eqbAEntry (⟨2, bx, 0, f, ⟨#[]⟩, tx⟩ : AEntry) (⟨2, bx, 0, f, ⟨#[]⟩, tx⟩ : AEntry) = true := eqbAEntry_self _
      replace h6 := h6 hq
      replace h1 := h1 hq
      replace h0 := h0 hq
      clear h3 hq
      rcases (by omega : f < 0 ∨ (0 ≤ f ∧ 31 < f) ∨ (0 ≤ f ∧ f ≤ 31 ∧ (0 : Int) < 0) ∨ (0 ≤ f ∧ f ≤ 31 ∧ 0 ≤ (0 : Int) ∧ 1048576 < (0 : Int)) ∨ (0 ≤ f ∧ f ≤ 31 ∧ 0 ≤ (0 : Int) ∧ (0 : Int) ≤ 1048576)) with g1 | ⟨g1, g2⟩ | ⟨g1, g2, g3⟩ | ⟨g1, g2, g3, g4⟩ | ⟨g1, g2, g3, g4⟩
      · first | (exfalso; omega) | (obtain rfl := h6 (by omega); clear h6 h1 h0; go_enter Tryd.func53, Tryd.ntmps53; go_wp2_with (go_at_call 52; first | (refine (in_yes _ _ _ _ (by omega) (by omega)).mono ?_; rintro e w' ⟨rfl, rfl⟩) | (refine (in_no _ _ _ _ (by omega)).mono ?_; rintro e w' ⟨rfl, rfl⟩)); go_ret; exact ⟨(by first | rfl | (simp; done) | (simp [*]; done) | (rw [if_pos (by omega)]; first | rfl | (simp; done)) | (rw [if_neg (by omega)]; first | rfl | (simp; done)) | (simp; omega)), (by repeat (first | exact Below.refl _ _ | apply below_alloc | apply pw_below_drewN | apply below_drew1 | (refine Below.setCell ?_ (by first | (simp; done) | (simp; omega) | omega) _) ))⟩)
      · first | (exfalso; omega) | (obtain rfl := h6 (by omega); clear h6 h1 h0; go_enter Tryd.func53, Tryd.ntmps53; go_wp2_with (go_at_call 52; first | (refine (in_yes _ _ _ _ (by omega) (by omega)).mono ?_; rintro e w' ⟨rfl, rfl⟩) | (refine (in_no _ _ _ _ (by omega)).mono ?_; rintro e w' ⟨rfl, rfl⟩)); go_ret; exact ⟨(by first | rfl | (simp; done) | (simp [*]; done) | (rw [if_pos (by omega)]; first | rfl | (simp; done)) | (rw [if_neg (by omega)]; first | rfl | (simp; done)) | (simp; omega)), (by repeat (first | exact Below.refl _ _ | apply below_alloc | apply pw_below_drewN | apply below_drew1 | (refine Below.setCell ?_ (by first | (simp; done) | (simp; omega) | omega) _) ))⟩)
      · first | (exfalso; omega) | (obtain rfl := h6 (by omega); clear h6 h1 h0; go_enter Tryd.func53, Tryd.ntmps53; go_wp2_with (go_at_call 52; first | (refine (in_yes _ _ _ _ (by omega) (by omega)).mono ?_; rintro e w' ⟨rfl, rfl⟩) | (refine (in_no _ _ _ _ (by omega)).mono ?_; rintro e w' ⟨rfl, rfl⟩)); go_ret; exact ⟨(by first | rfl | (simp; done) | (simp [*]; done) | (rw [if_pos (by omega)]; first | rfl | (simp; done)) | (rw [if_neg (by omega)]; first | rfl | (simp; done)) | (simp; omega)), (by repeat (first | exact Below.refl _ _ | apply below_alloc | apply pw_below_drewN | apply below_drew1 | (refine Below.setCell ?_ (by first | (simp; done) | (simp; omega) | omega) _) ))⟩)
      · first | (exfalso; omega) | (obtain rfl := h6 (by omega); clear h6 h1 h0; go_enter Tryd.func53, Tryd.ntmps53; go_wp2_with (go_at_call 52; first | (refine (in_yes _ _ _ _ (by omega) (by omega)).mono ?_; rintro e w' ⟨rfl, rfl⟩) | (refine (in_no _ _ _ _ (by omega)).mono ?_; rintro e w' ⟨rfl, rfl⟩)); go_ret; exact ⟨(by first | rfl | (simp; done) | (simp [*]; done) | (rw [if_pos (by omega)]; first | rfl | (simp; done)) | (rw [if_neg (by omega)]; first | rfl | (simp; done)) | (simp; omega)), (by repeat (first | exact Below.refl _ _ | apply below_alloc | apply pw_below_drewN | apply below_drew1 | (refine Below.setCell ?_ (by first | (simp; done) | (simp; omega) | omega) _) ))⟩)
      · by_cases g5 : 2000 < tx.size
        · first | (exfalso; simp at g5; done) | (obtain rfl := h1 (by omega) g5; clear h6 h1 h0; have g5' : (2000 : Int) < tx.size := (by omega); go_enter Tryd.func53, Tryd.ntmps53; go_wp2_with (go_at_call 52; first | (refine (in_yes _ _ _ _ (by omega) (by omega)).mono ?_; rintro e w' ⟨rfl, rfl⟩) | (refine (in_no _ _ _ _ (by omega)).mono ?_; rintro e w' ⟨rfl, rfl⟩)); go_ret; exact ⟨(by first | rfl | (simp; done) | (simp [*]; done) | (rw [if_pos (by omega)]; first | rfl | (simp; done)) | (rw [if_neg (by omega)]; first | rfl | (simp; done)) | (simp; omega)), (by repeat (first | exact Below.refl _ _ | apply below_alloc | apply pw_below_drewN | apply below_drew1 | (refine Below.setCell ?_ (by first | (simp; done) | (simp; omega) | omega) _) ))⟩)
        · replace h0 := h0 (by omega) (by first | exact g5 | omega)
          have g5' : ¬ (2000 : Int) < tx.size := by omega
          clear h6 h1
          replace h0 : r = nameFault bx := by rw [h0, if_neg (by omega), nameTail]; simp only; split <;> simp_all
          have HN := fun w => boxName_calls bx w (by omega)
          generalize nameFault bx = nf at *
          subst h0
          have HN := Lib.hid HN
          by_cases hz : r = 0
          · subst hz
            go_enter Tryd.func53, Tryd.ntmps53
            go_wp2_with (first | (go_at_call 52; first | (refine (in_yes _ _ _ _ (by omega) (by omega)).mono ?_; rintro e w' ⟨rfl, rfl⟩) | (refine (in_no _ _ _ _ (by omega)).mono ?_; rintro e w' ⟨rfl, rfl⟩)) | (go_at_call 50; refine (HN.out _).mono ?_; rintro e w1 ⟨rfl, rfl⟩))
            go_ret; exact ⟨(by first | rfl | (simp; done) | (simp [*]; done) | (rw [if_pos (by omega)]; first | rfl | (simp; done)) | (rw [if_neg (by omega)]; first | rfl | (simp; done)) | (simp; omega)), (by repeat (first | exact Below.refl _ _ | apply below_alloc | apply pw_below_drewN | apply below_drew1 | (refine Below.setCell ?_ (by first | (simp; done) | (simp; omega) | omega) _) ))⟩
          · have e1 : (r == 0) = false := by rw [beq_eq_false_iff_ne]; exact hz
            clear hz
            go_enter Tryd.func53, Tryd.ntmps53
            go_wp2_with (first | (go_at_call 52; first | (refine (in_yes _ _ _ _ (by omega) (by omega)).mono ?_; rintro e w' ⟨rfl, rfl⟩) | (refine (in_no _ _ _ _ (by omega)).mono ?_; rintro e w' ⟨rfl, rfl⟩)) | (go_at_call 50; refine (HN.out _).mono ?_; rintro e w1 ⟨rfl, rfl⟩))
            go_ret; exact ⟨(by first | rfl | (simp; done) | (simp [*]; done) | (rw [if_pos (by omega)]; first | rfl | (simp; done)) | (rw [if_neg (by omega)]; first | rfl | (simp; done)) | (simp; omega)), (by repeat (first | exact Below.refl _ _ | apply below_alloc | apply pw_below_drewN | apply below_drew1 | (refine Below.setCell ?_ (by first | (simp; done) | (simp; omega) | omega) _) ))⟩
    · have q_ : (u != 0) = true := by rw [bne_iff_ne]; exact hc
      obtain rfl := h3 (eqb_not (fun h => by simp_all)); clear h3 h6 h1 h0; go_enter Tryd.func53, Tryd.ntmps53; go_wp2_with (go_at_call 52; first | (refine (in_yes _ _ _ _ (by omega) (by omega)).mono ?_; rintro e w' ⟨rfl, rfl⟩) | (refine (in_no _ _ _ _ (by omega)).mono ?_; rintro e w' ⟨rfl, rfl⟩)); go_ret; exact ⟨(by first | rfl | (simp; done) | (simp [*]; done) | (rw [if_pos (by omega)]; first | rfl | (simp; done)) | (rw [if_neg (by omega)]; first | rfl | (simp; done)) | (simp; omega)), (by repeat (first | exact Below.refl _ _ | apply below_alloc | apply pw_below_drewN | apply below_drew1 | (refine Below.setCell ?_ (by first | (simp; done) | (simp; omega) | omega) _) ))⟩
  · have q_ := lit_no (l := []) hc
    obtain rfl := h3 (eqb_not (fun h => by simp_all)); clear h3 h6 h1 h0; go_enter Tryd.func53, Tryd.ntmps53; go_wp2_with (go_at_call 52; first | (refine (in_yes _ _ _ _ (by omega) (by omega)).mono ?_; rintro e w' ⟨rfl, rfl⟩) | (refine (in_no _ _ _ _ (by omega)).mono ?_; rintro e w' ⟨rfl, rfl⟩)); go_ret; exact ⟨(by first | rfl | (simp; done) | (simp [*]; done) | (rw [if_pos (by omega)]; first | rfl | (simp; done)) | (rw [if_neg (by omega)]; first | rfl | (simp; done)) | (simp; omega)), (by repeat (first | exact Below.refl _ _ | apply below_alloc | apply pw_below_drewN | apply below_drew1 | (refine Below.setCell ?_ (by first | (simp; done) | (simp; omega) | omega) _) ))⟩
set_option maxHeartbeats 8000000 in
set_option maxRecDepth 100000 in
theorem fault_3 (bx : ByteArray) (u f : Int) (to_ tx : ByteArray) (w : World) (hb : bx.size ≤ 1048576) (ht : to_.size ≤ 1048576) (hx : tx.size ≤ 1048576) :
    Calls Tryd.prog 53 #[.agg #[.int .i64 3, .string bx, .int .i64 u, .int .i64 f, .string to_, .string tx]] w fun e w' => e = .returned (.int .i64 (entryFault ⟨3, bx, u, f, to_, tx⟩)) ∧ Below w.heap.size w w' := by
  have hk : ¬ ((⟨3, bx, u, f, to_, tx⟩ : AEntry).kind < 1 ∨ 6 < (⟨3, bx, u, f, to_, tx⟩ : AEntry).kind) := by show ¬ ((3 : Int) < 1 ∨ 6 < (3 : Int)); omega
  have hbare : bareE ⟨3, bx, u, f, to_, tx⟩ = (⟨3, bx, u, f, ⟨#[]⟩, ⟨#[]⟩⟩ : AEntry) := rfl
  have h3 := fun h => ef_form (x := ⟨3, bx, u, f, to_, tx⟩) hk h
  have h6 := fun h h2 => ef_range (x := ⟨3, bx, u, f, to_, tx⟩) hk h h2
  have h1 := fun h h2 h3 => ef_size (x := ⟨3, bx, u, f, to_, tx⟩) hk h h2 h3
  have h0 := fun h h2 h3 => ef_tail (x := ⟨3, bx, u, f, to_, tx⟩) hk h h2 h3
  rw [hbare] at h3 h6 h1 h0
  simp only at h6 h1 h0
  generalize entryFault ⟨3, bx, u, f, to_, tx⟩ = r at *
  clear hbare hk
  by_cases hc : to_ = (⟨#[]⟩ : ByteArray)
  · subst hc
    by_cases hc : tx = (⟨#[]⟩ : ByteArray)
    · subst hc
      have hq : eqbAEntry (⟨3, bx, u, f, ⟨#[]⟩, ⟨#[]⟩⟩ : AEntry) (⟨3, bx, u, f, ⟨#[]⟩, ⟨#[]⟩⟩ : AEntry) = true := eqbAEntry_self _
      replace h6 := h6 hq
      replace h1 := h1 hq
      replace h0 := h0 hq
      clear h3 hq
      rcases (by omega : f < 0 ∨ (0 ≤ f ∧ 31 < f) ∨ (0 ≤ f ∧ f ≤ 31 ∧ u < 0) ∨ (0 ≤ f ∧ f ≤ 31 ∧ 0 ≤ u ∧ 1048576 < u) ∨ (0 ≤ f ∧ f ≤ 31 ∧ 0 ≤ u ∧ u ≤ 1048576)) with g1 | ⟨g1, g2⟩ | ⟨g1, g2, g3⟩ | ⟨g1, g2, g3, g4⟩ | ⟨g1, g2, g3, g4⟩
      · first | (exfalso; omega) | (obtain rfl := h6 (by omega); clear h6 h1 h0; go_enter Tryd.func53, Tryd.ntmps53; go_wp2_with (go_at_call 52; first | (refine (in_yes _ _ _ _ (by omega) (by omega)).mono ?_; rintro e w' ⟨rfl, rfl⟩) | (refine (in_no _ _ _ _ (by omega)).mono ?_; rintro e w' ⟨rfl, rfl⟩)); go_ret; exact ⟨(by first | rfl | (simp; done) | (simp [*]; done) | (rw [if_pos (by omega)]; first | rfl | (simp; done)) | (rw [if_neg (by omega)]; first | rfl | (simp; done)) | (simp; omega)), (by repeat (first | exact Below.refl _ _ | apply below_alloc | apply pw_below_drewN | apply below_drew1 | (refine Below.setCell ?_ (by first | (simp; done) | (simp; omega) | omega) _) ))⟩)
      · first | (exfalso; omega) | (obtain rfl := h6 (by omega); clear h6 h1 h0; go_enter Tryd.func53, Tryd.ntmps53; go_wp2_with (go_at_call 52; first | (refine (in_yes _ _ _ _ (by omega) (by omega)).mono ?_; rintro e w' ⟨rfl, rfl⟩) | (refine (in_no _ _ _ _ (by omega)).mono ?_; rintro e w' ⟨rfl, rfl⟩)); go_ret; exact ⟨(by first | rfl | (simp; done) | (simp [*]; done) | (rw [if_pos (by omega)]; first | rfl | (simp; done)) | (rw [if_neg (by omega)]; first | rfl | (simp; done)) | (simp; omega)), (by repeat (first | exact Below.refl _ _ | apply below_alloc | apply pw_below_drewN | apply below_drew1 | (refine Below.setCell ?_ (by first | (simp; done) | (simp; omega) | omega) _) ))⟩)
      · first | (exfalso; omega) | (obtain rfl := h6 (by omega); clear h6 h1 h0; go_enter Tryd.func53, Tryd.ntmps53; go_wp2_with (go_at_call 52; first | (refine (in_yes _ _ _ _ (by omega) (by omega)).mono ?_; rintro e w' ⟨rfl, rfl⟩) | (refine (in_no _ _ _ _ (by omega)).mono ?_; rintro e w' ⟨rfl, rfl⟩)); go_ret; exact ⟨(by first | rfl | (simp; done) | (simp [*]; done) | (rw [if_pos (by omega)]; first | rfl | (simp; done)) | (rw [if_neg (by omega)]; first | rfl | (simp; done)) | (simp; omega)), (by repeat (first | exact Below.refl _ _ | apply below_alloc | apply pw_below_drewN | apply below_drew1 | (refine Below.setCell ?_ (by first | (simp; done) | (simp; omega) | omega) _) ))⟩)
      · first | (exfalso; omega) | (obtain rfl := h6 (by omega); clear h6 h1 h0; go_enter Tryd.func53, Tryd.ntmps53; go_wp2_with (go_at_call 52; first | (refine (in_yes _ _ _ _ (by omega) (by omega)).mono ?_; rintro e w' ⟨rfl, rfl⟩) | (refine (in_no _ _ _ _ (by omega)).mono ?_; rintro e w' ⟨rfl, rfl⟩)); go_ret; exact ⟨(by first | rfl | (simp; done) | (simp [*]; done) | (rw [if_pos (by omega)]; first | rfl | (simp; done)) | (rw [if_neg (by omega)]; first | rfl | (simp; done)) | (simp; omega)), (by repeat (first | exact Below.refl _ _ | apply below_alloc | apply pw_below_drewN | apply below_drew1 | (refine Below.setCell ?_ (by first | (simp; done) | (simp; omega) | omega) _) ))⟩)
      · replace h0 := h0 (by omega) (by decide)
        clear h6 h1
        replace h0 : r = nameFault bx := by rw [h0, if_neg (by omega), nameTail]; simp only; split <;> simp_all
        have HN := fun w => boxName_calls bx w (by omega)
        generalize nameFault bx = nf at *
        subst h0
        have HN := Lib.hid HN
        by_cases hz : r = 0
        · subst hz
          go_enter Tryd.func53, Tryd.ntmps53
          go_wp2_with (first | (go_at_call 52; first | (refine (in_yes _ _ _ _ (by omega) (by omega)).mono ?_; rintro e w' ⟨rfl, rfl⟩) | (refine (in_no _ _ _ _ (by omega)).mono ?_; rintro e w' ⟨rfl, rfl⟩)) | (go_at_call 50; refine (HN.out _).mono ?_; rintro e w1 ⟨rfl, rfl⟩))
          go_ret; exact ⟨(by first | rfl | (simp; done) | (simp [*]; done) | (rw [if_pos (by omega)]; first | rfl | (simp; done)) | (rw [if_neg (by omega)]; first | rfl | (simp; done)) | (simp; omega)), (by repeat (first | exact Below.refl _ _ | apply below_alloc | apply pw_below_drewN | apply below_drew1 | (refine Below.setCell ?_ (by first | (simp; done) | (simp; omega) | omega) _) ))⟩
        · have e1 : (r == 0) = false := by rw [beq_eq_false_iff_ne]; exact hz
          clear hz
          go_enter Tryd.func53, Tryd.ntmps53
          go_wp2_with (first | (go_at_call 52; first | (refine (in_yes _ _ _ _ (by omega) (by omega)).mono ?_; rintro e w' ⟨rfl, rfl⟩) | (refine (in_no _ _ _ _ (by omega)).mono ?_; rintro e w' ⟨rfl, rfl⟩)) | (go_at_call 50; refine (HN.out _).mono ?_; rintro e w1 ⟨rfl, rfl⟩))
          go_ret; exact ⟨(by first | rfl | (simp; done) | (simp [*]; done) | (rw [if_pos (by omega)]; first | rfl | (simp; done)) | (rw [if_neg (by omega)]; first | rfl | (simp; done)) | (simp; omega)), (by repeat (first | exact Below.refl _ _ | apply below_alloc | apply pw_below_drewN | apply below_drew1 | (refine Below.setCell ?_ (by first | (simp; done) | (simp; omega) | omega) _) ))⟩
    · have q_ := lit_no (l := []) hc
      obtain rfl := h3 (eqb_not (fun h => by simp_all)); clear h3 h6 h1 h0; go_enter Tryd.func53, Tryd.ntmps53; go_wp2_with (go_at_call 52; first | (refine (in_yes _ _ _ _ (by omega) (by omega)).mono ?_; rintro e w' ⟨rfl, rfl⟩) | (refine (in_no _ _ _ _ (by omega)).mono ?_; rintro e w' ⟨rfl, rfl⟩)); go_ret; exact ⟨(by first | rfl | (simp; done) | (simp [*]; done) | (rw [if_pos (by omega)]; first | rfl | (simp; done)) | (rw [if_neg (by omega)]; first | rfl | (simp; done)) | (simp; omega)), (by repeat (first | exact Below.refl _ _ | apply below_alloc | apply pw_below_drewN | apply below_drew1 | (refine Below.setCell ?_ (by first | (simp; done) | (simp; omega) | omega) _) ))⟩
  · have q_ := lit_no (l := []) hc
    obtain rfl := h3 (eqb_not (fun h => by simp_all)); clear h3 h6 h1 h0; go_enter Tryd.func53, Tryd.ntmps53; go_wp2_with (go_at_call 52; first | (refine (in_yes _ _ _ _ (by omega) (by omega)).mono ?_; rintro e w' ⟨rfl, rfl⟩) | (refine (in_no _ _ _ _ (by omega)).mono ?_; rintro e w' ⟨rfl, rfl⟩)); go_ret; exact ⟨(by first | rfl | (simp; done) | (simp [*]; done) | (rw [if_pos (by omega)]; first | rfl | (simp; done)) | (rw [if_neg (by omega)]; first | rfl | (simp; done)) | (simp; omega)), (by repeat (first | exact Below.refl _ _ | apply below_alloc | apply pw_below_drewN | apply below_drew1 | (refine Below.setCell ?_ (by first | (simp; done) | (simp; omega) | omega) _) ))⟩
set_option maxHeartbeats 8000000 in
set_option maxRecDepth 100000 in
theorem fault_4 (bx : ByteArray) (u f : Int) (to_ tx : ByteArray) (w : World) (hb : bx.size ≤ 1048576) (ht : to_.size ≤ 1048576) (hx : tx.size ≤ 1048576) :
    Calls Tryd.prog 53 #[.agg #[.int .i64 4, .string bx, .int .i64 u, .int .i64 f, .string to_, .string tx]] w fun e w' => e = .returned (.int .i64 (entryFault ⟨4, bx, u, f, to_, tx⟩)) ∧ Below w.heap.size w w' := by
  have hk : ¬ ((⟨4, bx, u, f, to_, tx⟩ : AEntry).kind < 1 ∨ 6 < (⟨4, bx, u, f, to_, tx⟩ : AEntry).kind) := by show ¬ ((4 : Int) < 1 ∨ 6 < (4 : Int)); omega
  have hbare : bareE ⟨4, bx, u, f, to_, tx⟩ = (⟨4, bx, 0, 0, ⟨#[]⟩, ⟨#[]⟩⟩ : AEntry) := rfl
  have h3 := fun h => ef_form (x := ⟨4, bx, u, f, to_, tx⟩) hk h
  have h6 := fun h h2 => ef_range (x := ⟨4, bx, u, f, to_, tx⟩) hk h h2
  have h1 := fun h h2 h3 => ef_size (x := ⟨4, bx, u, f, to_, tx⟩) hk h h2 h3
  have h0 := fun h h2 h3 => ef_tail (x := ⟨4, bx, u, f, to_, tx⟩) hk h h2 h3
  rw [hbare] at h3 h6 h1 h0
  simp only at h6 h1 h0
  generalize entryFault ⟨4, bx, u, f, to_, tx⟩ = r at *
  clear hbare hk
  by_cases hc : to_ = (⟨#[]⟩ : ByteArray)
  · subst hc
    by_cases hc : tx = (⟨#[]⟩ : ByteArray)
    · subst hc
      by_cases hc : u = 0
      · subst hc
        by_cases hc : f = 0
        · subst hc
          have hq : eqbAEntry (⟨4, bx, 0, 0, ⟨#[]⟩, ⟨#[]⟩⟩ : AEntry) (⟨4, bx, 0, 0, ⟨#[]⟩, ⟨#[]⟩⟩ : AEntry) = true := eqbAEntry_self _
          replace h6 := h6 hq
          replace h1 := h1 hq
          replace h0 := h0 hq
          clear h3 hq
          rcases (by omega : (0 : Int) < 0 ∨ (0 ≤ (0 : Int) ∧ 31 < (0 : Int)) ∨ (0 ≤ (0 : Int) ∧ (0 : Int) ≤ 31 ∧ (0 : Int) < 0) ∨ (0 ≤ (0 : Int) ∧ (0 : Int) ≤ 31 ∧ 0 ≤ (0 : Int) ∧ 1048576 < (0 : Int)) ∨ (0 ≤ (0 : Int) ∧ (0 : Int) ≤ 31 ∧ 0 ≤ (0 : Int) ∧ (0 : Int) ≤ 1048576)) with g1 | ⟨g1, g2⟩ | ⟨g1, g2, g3⟩ | ⟨g1, g2, g3, g4⟩ | ⟨g1, g2, g3, g4⟩
          · first | (exfalso; omega) | (obtain rfl := h6 (by omega); clear h6 h1 h0; go_enter Tryd.func53, Tryd.ntmps53; go_wp2_with (go_at_call 52; first | (refine (in_yes _ _ _ _ (by omega) (by omega)).mono ?_; rintro e w' ⟨rfl, rfl⟩) | (refine (in_no _ _ _ _ (by omega)).mono ?_; rintro e w' ⟨rfl, rfl⟩)); go_ret; exact ⟨(by first | rfl | (simp; done) | (simp [*]; done) | (rw [if_pos (by omega)]; first | rfl | (simp; done)) | (rw [if_neg (by omega)]; first | rfl | (simp; done)) | (simp; omega)), (by repeat (first | exact Below.refl _ _ | apply below_alloc | apply pw_below_drewN | apply below_drew1 | (refine Below.setCell ?_ (by first | (simp; done) | (simp; omega) | omega) _) ))⟩)
          · first | (exfalso; omega) | (obtain rfl := h6 (by omega); clear h6 h1 h0; go_enter Tryd.func53, Tryd.ntmps53; go_wp2_with (go_at_call 52; first | (refine (in_yes _ _ _ _ (by omega) (by omega)).mono ?_; rintro e w' ⟨rfl, rfl⟩) | (refine (in_no _ _ _ _ (by omega)).mono ?_; rintro e w' ⟨rfl, rfl⟩)); go_ret; exact ⟨(by first | rfl | (simp; done) | (simp [*]; done) | (rw [if_pos (by omega)]; first | rfl | (simp; done)) | (rw [if_neg (by omega)]; first | rfl | (simp; done)) | (simp; omega)), (by repeat (first | exact Below.refl _ _ | apply below_alloc | apply pw_below_drewN | apply below_drew1 | (refine Below.setCell ?_ (by first | (simp; done) | (simp; omega) | omega) _) ))⟩)
          · first | (exfalso; omega) | (obtain rfl := h6 (by omega); clear h6 h1 h0; go_enter Tryd.func53, Tryd.ntmps53; go_wp2_with (go_at_call 52; first | (refine (in_yes _ _ _ _ (by omega) (by omega)).mono ?_; rintro e w' ⟨rfl, rfl⟩) | (refine (in_no _ _ _ _ (by omega)).mono ?_; rintro e w' ⟨rfl, rfl⟩)); go_ret; exact ⟨(by first | rfl | (simp; done) | (simp [*]; done) | (rw [if_pos (by omega)]; first | rfl | (simp; done)) | (rw [if_neg (by omega)]; first | rfl | (simp; done)) | (simp; omega)), (by repeat (first | exact Below.refl _ _ | apply below_alloc | apply pw_below_drewN | apply below_drew1 | (refine Below.setCell ?_ (by first | (simp; done) | (simp; omega) | omega) _) ))⟩)
          · first | (exfalso; omega) | (obtain rfl := h6 (by omega); clear h6 h1 h0; go_enter Tryd.func53, Tryd.ntmps53; go_wp2_with (go_at_call 52; first | (refine (in_yes _ _ _ _ (by omega) (by omega)).mono ?_; rintro e w' ⟨rfl, rfl⟩) | (refine (in_no _ _ _ _ (by omega)).mono ?_; rintro e w' ⟨rfl, rfl⟩)); go_ret; exact ⟨(by first | rfl | (simp; done) | (simp [*]; done) | (rw [if_pos (by omega)]; first | rfl | (simp; done)) | (rw [if_neg (by omega)]; first | rfl | (simp; done)) | (simp; omega)), (by repeat (first | exact Below.refl _ _ | apply below_alloc | apply pw_below_drewN | apply below_drew1 | (refine Below.setCell ?_ (by first | (simp; done) | (simp; omega) | omega) _) ))⟩)
          · replace h0 := h0 (by omega) (by decide)
            clear h6 h1
            replace h0 : r = nameFault bx := by rw [h0, if_neg (by omega), nameTail]; simp only; split <;> simp_all
            have HN := fun w => boxName_calls bx w (by omega)
            generalize nameFault bx = nf at *
            subst h0
            have HN := Lib.hid HN
            by_cases hz : r = 0
            · subst hz
              go_enter Tryd.func53, Tryd.ntmps53
              go_wp2_with (first | (go_at_call 52; first | (refine (in_yes _ _ _ _ (by omega) (by omega)).mono ?_; rintro e w' ⟨rfl, rfl⟩) | (refine (in_no _ _ _ _ (by omega)).mono ?_; rintro e w' ⟨rfl, rfl⟩)) | (go_at_call 50; refine (HN.out _).mono ?_; rintro e w1 ⟨rfl, rfl⟩))
              go_ret; exact ⟨(by first | rfl | (simp; done) | (simp [*]; done) | (rw [if_pos (by omega)]; first | rfl | (simp; done)) | (rw [if_neg (by omega)]; first | rfl | (simp; done)) | (simp; omega)), (by repeat (first | exact Below.refl _ _ | apply below_alloc | apply pw_below_drewN | apply below_drew1 | (refine Below.setCell ?_ (by first | (simp; done) | (simp; omega) | omega) _) ))⟩
            · have e1 : (r == 0) = false := by rw [beq_eq_false_iff_ne]; exact hz
              clear hz
              go_enter Tryd.func53, Tryd.ntmps53
              go_wp2_with (first | (go_at_call 52; first | (refine (in_yes _ _ _ _ (by omega) (by omega)).mono ?_; rintro e w' ⟨rfl, rfl⟩) | (refine (in_no _ _ _ _ (by omega)).mono ?_; rintro e w' ⟨rfl, rfl⟩)) | (go_at_call 50; refine (HN.out _).mono ?_; rintro e w1 ⟨rfl, rfl⟩))
              go_ret; exact ⟨(by first | rfl | (simp; done) | (simp [*]; done) | (rw [if_pos (by omega)]; first | rfl | (simp; done)) | (rw [if_neg (by omega)]; first | rfl | (simp; done)) | (simp; omega)), (by repeat (first | exact Below.refl _ _ | apply below_alloc | apply pw_below_drewN | apply below_drew1 | (refine Below.setCell ?_ (by first | (simp; done) | (simp; omega) | omega) _) ))⟩
        · have q_ : (f != 0) = true := by rw [bne_iff_ne]; exact hc
          obtain rfl := h3 (eqb_not (fun h => by simp_all)); clear h3 h6 h1 h0; go_enter Tryd.func53, Tryd.ntmps53; go_wp2_with (go_at_call 52; first | (refine (in_yes _ _ _ _ (by omega) (by omega)).mono ?_; rintro e w' ⟨rfl, rfl⟩) | (refine (in_no _ _ _ _ (by omega)).mono ?_; rintro e w' ⟨rfl, rfl⟩)); go_ret; exact ⟨(by first | rfl | (simp; done) | (simp [*]; done) | (rw [if_pos (by omega)]; first | rfl | (simp; done)) | (rw [if_neg (by omega)]; first | rfl | (simp; done)) | (simp; omega)), (by repeat (first | exact Below.refl _ _ | apply below_alloc | apply pw_below_drewN | apply below_drew1 | (refine Below.setCell ?_ (by first | (simp; done) | (simp; omega) | omega) _) ))⟩
      · have q_ : (u != 0) = true := by rw [bne_iff_ne]; exact hc
        obtain rfl := h3 (eqb_not (fun h => by simp_all)); clear h3 h6 h1 h0; go_enter Tryd.func53, Tryd.ntmps53; go_wp2_with (go_at_call 52; first | (refine (in_yes _ _ _ _ (by omega) (by omega)).mono ?_; rintro e w' ⟨rfl, rfl⟩) | (refine (in_no _ _ _ _ (by omega)).mono ?_; rintro e w' ⟨rfl, rfl⟩)); go_ret; exact ⟨(by first | rfl | (simp; done) | (simp [*]; done) | (rw [if_pos (by omega)]; first | rfl | (simp; done)) | (rw [if_neg (by omega)]; first | rfl | (simp; done)) | (simp; omega)), (by repeat (first | exact Below.refl _ _ | apply below_alloc | apply pw_below_drewN | apply below_drew1 | (refine Below.setCell ?_ (by first | (simp; done) | (simp; omega) | omega) _) ))⟩
    · have q_ := lit_no (l := []) hc
      obtain rfl := h3 (eqb_not (fun h => by simp_all)); clear h3 h6 h1 h0; go_enter Tryd.func53, Tryd.ntmps53; go_wp2_with (go_at_call 52; first | (refine (in_yes _ _ _ _ (by omega) (by omega)).mono ?_; rintro e w' ⟨rfl, rfl⟩) | (refine (in_no _ _ _ _ (by omega)).mono ?_; rintro e w' ⟨rfl, rfl⟩)); go_ret; exact ⟨(by first | rfl | (simp; done) | (simp [*]; done) | (rw [if_pos (by omega)]; first | rfl | (simp; done)) | (rw [if_neg (by omega)]; first | rfl | (simp; done)) | (simp; omega)), (by repeat (first | exact Below.refl _ _ | apply below_alloc | apply pw_below_drewN | apply below_drew1 | (refine Below.setCell ?_ (by first | (simp; done) | (simp; omega) | omega) _) ))⟩
  · have q_ := lit_no (l := []) hc
    obtain rfl := h3 (eqb_not (fun h => by simp_all)); clear h3 h6 h1 h0; go_enter Tryd.func53, Tryd.ntmps53; go_wp2_with (go_at_call 52; first | (refine (in_yes _ _ _ _ (by omega) (by omega)).mono ?_; rintro e w' ⟨rfl, rfl⟩) | (refine (in_no _ _ _ _ (by omega)).mono ?_; rintro e w' ⟨rfl, rfl⟩)); go_ret; exact ⟨(by first | rfl | (simp; done) | (simp [*]; done) | (rw [if_pos (by omega)]; first | rfl | (simp; done)) | (rw [if_neg (by omega)]; first | rfl | (simp; done)) | (simp; omega)), (by repeat (first | exact Below.refl _ _ | apply below_alloc | apply pw_below_drewN | apply below_drew1 | (refine Below.setCell ?_ (by first | (simp; done) | (simp; omega) | omega) _) ))⟩
set_option maxHeartbeats 8000000 in
set_option maxRecDepth 100000 in
theorem fault_5 (bx : ByteArray) (u f : Int) (to_ tx : ByteArray) (w : World) (hb : bx.size ≤ 1048576) (ht : to_.size ≤ 1048576) (hx : tx.size ≤ 1048576) :
    Calls Tryd.prog 53 #[.agg #[.int .i64 5, .string bx, .int .i64 u, .int .i64 f, .string to_, .string tx]] w fun e w' => e = .returned (.int .i64 (entryFault ⟨5, bx, u, f, to_, tx⟩)) ∧ Below w.heap.size w w' := by
  have hk : ¬ ((⟨5, bx, u, f, to_, tx⟩ : AEntry).kind < 1 ∨ 6 < (⟨5, bx, u, f, to_, tx⟩ : AEntry).kind) := by show ¬ ((5 : Int) < 1 ∨ 6 < (5 : Int)); omega
  have hbare : bareE ⟨5, bx, u, f, to_, tx⟩ = (⟨5, bx, u, 0, to_, ⟨#[]⟩⟩ : AEntry) := rfl
  have h3 := fun h => ef_form (x := ⟨5, bx, u, f, to_, tx⟩) hk h
  have h6 := fun h h2 => ef_range (x := ⟨5, bx, u, f, to_, tx⟩) hk h h2
  have h1 := fun h h2 h3 => ef_size (x := ⟨5, bx, u, f, to_, tx⟩) hk h h2 h3
  have h0 := fun h h2 h3 => ef_tail (x := ⟨5, bx, u, f, to_, tx⟩) hk h h2 h3
  rw [hbare] at h3 h6 h1 h0
  simp only at h6 h1 h0
  generalize entryFault ⟨5, bx, u, f, to_, tx⟩ = r at *
  clear hbare hk
  by_cases hc : tx = (⟨#[]⟩ : ByteArray)
  · subst hc
    by_cases hc : f = 0
    · subst hc
      have hq : eqbAEntry (⟨5, bx, u, 0, to_, ⟨#[]⟩⟩ : AEntry) (⟨5, bx, u, 0, to_, ⟨#[]⟩⟩ : AEntry) = true := eqbAEntry_self _
      replace h6 := h6 hq
      replace h1 := h1 hq
      replace h0 := h0 hq
      clear h3 hq
      rcases (by omega : (0 : Int) < 0 ∨ (0 ≤ (0 : Int) ∧ 31 < (0 : Int)) ∨ (0 ≤ (0 : Int) ∧ (0 : Int) ≤ 31 ∧ u < 0) ∨ (0 ≤ (0 : Int) ∧ (0 : Int) ≤ 31 ∧ 0 ≤ u ∧ 1048576 < u) ∨ (0 ≤ (0 : Int) ∧ (0 : Int) ≤ 31 ∧ 0 ≤ u ∧ u ≤ 1048576)) with g1 | ⟨g1, g2⟩ | ⟨g1, g2, g3⟩ | ⟨g1, g2, g3, g4⟩ | ⟨g1, g2, g3, g4⟩
      · first | (exfalso; omega) | (obtain rfl := h6 (by omega); clear h6 h1 h0; go_enter Tryd.func53, Tryd.ntmps53; go_wp2_with (go_at_call 52; first | (refine (in_yes _ _ _ _ (by omega) (by omega)).mono ?_; rintro e w' ⟨rfl, rfl⟩) | (refine (in_no _ _ _ _ (by omega)).mono ?_; rintro e w' ⟨rfl, rfl⟩)); go_ret; exact ⟨(by first | rfl | (simp; done) | (simp [*]; done) | (rw [if_pos (by omega)]; first | rfl | (simp; done)) | (rw [if_neg (by omega)]; first | rfl | (simp; done)) | (simp; omega)), (by repeat (first | exact Below.refl _ _ | apply below_alloc | apply pw_below_drewN | apply below_drew1 | (refine Below.setCell ?_ (by first | (simp; done) | (simp; omega) | omega) _) ))⟩)
      · first | (exfalso; omega) | (obtain rfl := h6 (by omega); clear h6 h1 h0; go_enter Tryd.func53, Tryd.ntmps53; go_wp2_with (go_at_call 52; first | (refine (in_yes _ _ _ _ (by omega) (by omega)).mono ?_; rintro e w' ⟨rfl, rfl⟩) | (refine (in_no _ _ _ _ (by omega)).mono ?_; rintro e w' ⟨rfl, rfl⟩)); go_ret; exact ⟨(by first | rfl | (simp; done) | (simp [*]; done) | (rw [if_pos (by omega)]; first | rfl | (simp; done)) | (rw [if_neg (by omega)]; first | rfl | (simp; done)) | (simp; omega)), (by repeat (first | exact Below.refl _ _ | apply below_alloc | apply pw_below_drewN | apply below_drew1 | (refine Below.setCell ?_ (by first | (simp; done) | (simp; omega) | omega) _) ))⟩)
      · first | (exfalso; omega) | (obtain rfl := h6 (by omega); clear h6 h1 h0; go_enter Tryd.func53, Tryd.ntmps53; go_wp2_with (go_at_call 52; first | (refine (in_yes _ _ _ _ (by omega) (by omega)).mono ?_; rintro e w' ⟨rfl, rfl⟩) | (refine (in_no _ _ _ _ (by omega)).mono ?_; rintro e w' ⟨rfl, rfl⟩)); go_ret; exact ⟨(by first | rfl | (simp; done) | (simp [*]; done) | (rw [if_pos (by omega)]; first | rfl | (simp; done)) | (rw [if_neg (by omega)]; first | rfl | (simp; done)) | (simp; omega)), (by repeat (first | exact Below.refl _ _ | apply below_alloc | apply pw_below_drewN | apply below_drew1 | (refine Below.setCell ?_ (by first | (simp; done) | (simp; omega) | omega) _) ))⟩)
      · first | (exfalso; omega) | (obtain rfl := h6 (by omega); clear h6 h1 h0; go_enter Tryd.func53, Tryd.ntmps53; go_wp2_with (go_at_call 52; first | (refine (in_yes _ _ _ _ (by omega) (by omega)).mono ?_; rintro e w' ⟨rfl, rfl⟩) | (refine (in_no _ _ _ _ (by omega)).mono ?_; rintro e w' ⟨rfl, rfl⟩)); go_ret; exact ⟨(by first | rfl | (simp; done) | (simp [*]; done) | (rw [if_pos (by omega)]; first | rfl | (simp; done)) | (rw [if_neg (by omega)]; first | rfl | (simp; done)) | (simp; omega)), (by repeat (first | exact Below.refl _ _ | apply below_alloc | apply pw_below_drewN | apply below_drew1 | (refine Below.setCell ?_ (by first | (simp; done) | (simp; omega) | omega) _) ))⟩)
      · replace h0 := h0 (by omega) (by decide)
        clear h6 h1
        replace h0 : r = if nameFault bx = 0 then nameFault to_ else nameFault bx := by rw [h0, if_neg (by omega), nameTail]; simp
        have HN := fun w => boxName_calls bx w (by omega)
        have HM := fun w => boxName_calls to_ w (by omega)
        generalize nameFault bx = nf at *
        generalize nameFault to_ = nt at *
        have HN := Lib.hid HN
        have HM := Lib.hid HM
        by_cases hz : nf = 0
        · subst hz
          rw [if_pos rfl] at h0
          subst h0
          go_enter Tryd.func53, Tryd.ntmps53
          go_wp2_with (go_at_call 52; first | (refine (in_yes _ _ _ _ (by omega) (by omega)).mono ?_; rintro e w' ⟨rfl, rfl⟩) | (refine (in_no _ _ _ _ (by omega)).mono ?_; rintro e w' ⟨rfl, rfl⟩))
          refine (HN.out _).mono ?_
          rintro e w1 ⟨rfl, rfl⟩
          go_wp2_with (go_at_call 52; first | (refine (in_yes _ _ _ _ (by omega) (by omega)).mono ?_; rintro e w' ⟨rfl, rfl⟩) | (refine (in_no _ _ _ _ (by omega)).mono ?_; rintro e w' ⟨rfl, rfl⟩))
          refine (HM.out _).mono ?_
          rintro e w1 ⟨rfl, rfl⟩
          go_wp2_with (go_at_call 52; first | (refine (in_yes _ _ _ _ (by omega) (by omega)).mono ?_; rintro e w' ⟨rfl, rfl⟩) | (refine (in_no _ _ _ _ (by omega)).mono ?_; rintro e w' ⟨rfl, rfl⟩))
          go_ret; exact ⟨(by first | rfl | (simp; done) | (simp [*]; done) | (rw [if_pos (by omega)]; first | rfl | (simp; done)) | (rw [if_neg (by omega)]; first | rfl | (simp; done)) | (simp; omega)), (by repeat (first | exact Below.refl _ _ | apply below_alloc | apply pw_below_drewN | apply below_drew1 | (refine Below.setCell ?_ (by first | (simp; done) | (simp; omega) | omega) _) ))⟩
        · rw [if_neg hz] at h0
          subst h0
          have e1 : (r == 0) = false := by rw [beq_eq_false_iff_ne]; exact hz
          clear hz
          go_enter Tryd.func53, Tryd.ntmps53
          go_wp2_with (first | (go_at_call 52; first | (refine (in_yes _ _ _ _ (by omega) (by omega)).mono ?_; rintro e w' ⟨rfl, rfl⟩) | (refine (in_no _ _ _ _ (by omega)).mono ?_; rintro e w' ⟨rfl, rfl⟩)) | (go_at_call 50; refine (HN.out _).mono ?_; rintro e w1 ⟨rfl, rfl⟩))
          go_ret; exact ⟨(by first | rfl | (simp; done) | (simp [*]; done) | (rw [if_pos (by omega)]; first | rfl | (simp; done)) | (rw [if_neg (by omega)]; first | rfl | (simp; done)) | (simp; omega)), (by repeat (first | exact Below.refl _ _ | apply below_alloc | apply pw_below_drewN | apply below_drew1 | (refine Below.setCell ?_ (by first | (simp; done) | (simp; omega) | omega) _) ))⟩
    · have q_ : (f != 0) = true := by rw [bne_iff_ne]; exact hc
      obtain rfl := h3 (eqb_not (fun h => by simp_all)); clear h3 h6 h1 h0; go_enter Tryd.func53, Tryd.ntmps53; go_wp2_with (go_at_call 52; first | (refine (in_yes _ _ _ _ (by omega) (by omega)).mono ?_; rintro e w' ⟨rfl, rfl⟩) | (refine (in_no _ _ _ _ (by omega)).mono ?_; rintro e w' ⟨rfl, rfl⟩)); go_ret; exact ⟨(by first | rfl | (simp; done) | (simp [*]; done) | (rw [if_pos (by omega)]; first | rfl | (simp; done)) | (rw [if_neg (by omega)]; first | rfl | (simp; done)) | (simp; omega)), (by repeat (first | exact Below.refl _ _ | apply below_alloc | apply pw_below_drewN | apply below_drew1 | (refine Below.setCell ?_ (by first | (simp; done) | (simp; omega) | omega) _) ))⟩
  · have q_ := lit_no (l := []) hc
    obtain rfl := h3 (eqb_not (fun h => by simp_all)); clear h3 h6 h1 h0; go_enter Tryd.func53, Tryd.ntmps53; go_wp2_with (go_at_call 52; first | (refine (in_yes _ _ _ _ (by omega) (by omega)).mono ?_; rintro e w' ⟨rfl, rfl⟩) | (refine (in_no _ _ _ _ (by omega)).mono ?_; rintro e w' ⟨rfl, rfl⟩)); go_ret; exact ⟨(by first | rfl | (simp; done) | (simp [*]; done) | (rw [if_pos (by omega)]; first | rfl | (simp; done)) | (rw [if_neg (by omega)]; first | rfl | (simp; done)) | (simp; omega)), (by repeat (first | exact Below.refl _ _ | apply below_alloc | apply pw_below_drewN | apply below_drew1 | (refine Below.setCell ?_ (by first | (simp; done) | (simp; omega) | omega) _) ))⟩
set_option maxHeartbeats 8000000 in
set_option maxRecDepth 100000 in
theorem fault_6 (bx : ByteArray) (u f : Int) (to_ tx : ByteArray) (w : World) (hb : bx.size ≤ 1048576) (ht : to_.size ≤ 1048576) (hx : tx.size ≤ 1048576) :
    Calls Tryd.prog 53 #[.agg #[.int .i64 6, .string bx, .int .i64 u, .int .i64 f, .string to_, .string tx]] w fun e w' => e = .returned (.int .i64 (entryFault ⟨6, bx, u, f, to_, tx⟩)) ∧ Below w.heap.size w w' := by
  have hk : ¬ ((⟨6, bx, u, f, to_, tx⟩ : AEntry).kind < 1 ∨ 6 < (⟨6, bx, u, f, to_, tx⟩ : AEntry).kind) := by show ¬ ((6 : Int) < 1 ∨ 6 < (6 : Int)); omega
  have hbare : bareE ⟨6, bx, u, f, to_, tx⟩ = (⟨6, ⟨#[]⟩, 0, 0, to_, tx⟩ : AEntry) := rfl
  have h3 := fun h => ef_form (x := ⟨6, bx, u, f, to_, tx⟩) hk h
  have h6 := fun h h2 => ef_range (x := ⟨6, bx, u, f, to_, tx⟩) hk h h2
  have h1 := fun h h2 h3 => ef_size (x := ⟨6, bx, u, f, to_, tx⟩) hk h h2 h3
  have h0 := fun h h2 h3 => ef_tail (x := ⟨6, bx, u, f, to_, tx⟩) hk h h2 h3
  rw [hbare] at h3 h6 h1 h0
  simp only at h6 h1 h0
  generalize entryFault ⟨6, bx, u, f, to_, tx⟩ = r at *
  clear hbare hk
  by_cases hc : bx = (⟨#[]⟩ : ByteArray)
  · subst hc
    by_cases hc : u = 0
    · subst hc
      by_cases hc : f = 0
      · subst hc
        have hq : eqbAEntry (⟨6, ⟨#[]⟩, 0, 0, to_, tx⟩ : AEntry) (⟨6, ⟨#[]⟩, 0, 0, to_, tx⟩ : AEntry) = true := eqbAEntry_self _
        replace h6 := h6 hq
        replace h1 := h1 hq
        replace h0 := h0 hq
        clear h3 hq
        rcases (by omega : (0 : Int) < 0 ∨ (0 ≤ (0 : Int) ∧ 31 < (0 : Int)) ∨ (0 ≤ (0 : Int) ∧ (0 : Int) ≤ 31 ∧ (0 : Int) < 0) ∨ (0 ≤ (0 : Int) ∧ (0 : Int) ≤ 31 ∧ 0 ≤ (0 : Int) ∧ 1048576 < (0 : Int)) ∨ (0 ≤ (0 : Int) ∧ (0 : Int) ≤ 31 ∧ 0 ≤ (0 : Int) ∧ (0 : Int) ≤ 1048576)) with g1 | ⟨g1, g2⟩ | ⟨g1, g2, g3⟩ | ⟨g1, g2, g3, g4⟩ | ⟨g1, g2, g3, g4⟩
        · first | (exfalso; omega) | (obtain rfl := h6 (by omega); clear h6 h1 h0; go_enter Tryd.func53, Tryd.ntmps53; go_wp2_with (go_at_call 52; first | (refine (in_yes _ _ _ _ (by omega) (by omega)).mono ?_; rintro e w' ⟨rfl, rfl⟩) | (refine (in_no _ _ _ _ (by omega)).mono ?_; rintro e w' ⟨rfl, rfl⟩)); go_ret; exact ⟨(by first | rfl | (simp; done) | (simp [*]; done) | (rw [if_pos (by omega)]; first | rfl | (simp; done)) | (rw [if_neg (by omega)]; first | rfl | (simp; done)) | (simp; omega)), (by repeat (first | exact Below.refl _ _ | apply below_alloc | apply pw_below_drewN | apply below_drew1 | (refine Below.setCell ?_ (by first | (simp; done) | (simp; omega) | omega) _) ))⟩)
        · first | (exfalso; omega) | (obtain rfl := h6 (by omega); clear h6 h1 h0; go_enter Tryd.func53, Tryd.ntmps53; go_wp2_with (go_at_call 52; first | (refine (in_yes _ _ _ _ (by omega) (by omega)).mono ?_; rintro e w' ⟨rfl, rfl⟩) | (refine (in_no _ _ _ _ (by omega)).mono ?_; rintro e w' ⟨rfl, rfl⟩)); go_ret; exact ⟨(by first | rfl | (simp; done) | (simp [*]; done) | (rw [if_pos (by omega)]; first | rfl | (simp; done)) | (rw [if_neg (by omega)]; first | rfl | (simp; done)) | (simp; omega)), (by repeat (first | exact Below.refl _ _ | apply below_alloc | apply pw_below_drewN | apply below_drew1 | (refine Below.setCell ?_ (by first | (simp; done) | (simp; omega) | omega) _) ))⟩)
        · first | (exfalso; omega) | (obtain rfl := h6 (by omega); clear h6 h1 h0; go_enter Tryd.func53, Tryd.ntmps53; go_wp2_with (go_at_call 52; first | (refine (in_yes _ _ _ _ (by omega) (by omega)).mono ?_; rintro e w' ⟨rfl, rfl⟩) | (refine (in_no _ _ _ _ (by omega)).mono ?_; rintro e w' ⟨rfl, rfl⟩)); go_ret; exact ⟨(by first | rfl | (simp; done) | (simp [*]; done) | (rw [if_pos (by omega)]; first | rfl | (simp; done)) | (rw [if_neg (by omega)]; first | rfl | (simp; done)) | (simp; omega)), (by repeat (first | exact Below.refl _ _ | apply below_alloc | apply pw_below_drewN | apply below_drew1 | (refine Below.setCell ?_ (by first | (simp; done) | (simp; omega) | omega) _) ))⟩)
        · first | (exfalso; omega) | (obtain rfl := h6 (by omega); clear h6 h1 h0; go_enter Tryd.func53, Tryd.ntmps53; go_wp2_with (go_at_call 52; first | (refine (in_yes _ _ _ _ (by omega) (by omega)).mono ?_; rintro e w' ⟨rfl, rfl⟩) | (refine (in_no _ _ _ _ (by omega)).mono ?_; rintro e w' ⟨rfl, rfl⟩)); go_ret; exact ⟨(by first | rfl | (simp; done) | (simp [*]; done) | (rw [if_pos (by omega)]; first | rfl | (simp; done)) | (rw [if_neg (by omega)]; first | rfl | (simp; done)) | (simp; omega)), (by repeat (first | exact Below.refl _ _ | apply below_alloc | apply pw_below_drewN | apply below_drew1 | (refine Below.setCell ?_ (by first | (simp; done) | (simp; omega) | omega) _) ))⟩)
        · by_cases g5 : 2000 < tx.size
          · first | (exfalso; simp at g5; done) | (obtain rfl := h1 (by omega) g5; clear h6 h1 h0; have g5' : (2000 : Int) < tx.size := (by omega); go_enter Tryd.func53, Tryd.ntmps53; go_wp2_with (go_at_call 52; first | (refine (in_yes _ _ _ _ (by omega) (by omega)).mono ?_; rintro e w' ⟨rfl, rfl⟩) | (refine (in_no _ _ _ _ (by omega)).mono ?_; rintro e w' ⟨rfl, rfl⟩)); go_ret; exact ⟨(by first | rfl | (simp; done) | (simp [*]; done) | (rw [if_pos (by omega)]; first | rfl | (simp; done)) | (rw [if_neg (by omega)]; first | rfl | (simp; done)) | (simp; omega)), (by repeat (first | exact Below.refl _ _ | apply below_alloc | apply pw_below_drewN | apply below_drew1 | (refine Below.setCell ?_ (by first | (simp; done) | (simp; omega) | omega) _) ))⟩)
          · replace h0 := h0 (by omega) (by first | exact g5 | omega)
            have g5' : ¬ (2000 : Int) < tx.size := by omega
            clear h6 h1
            rw [if_pos (by trivial)] at h0
            by_cases h100 : 100 < to_.size
            · rw [spool_long h100] at h0
              subst h0
              have h100' : (100 : Int) < to_.size := by omega
              go_enter Tryd.func53, Tryd.ntmps53
              go_wp2_with (go_at_call 52; first | (refine (in_yes _ _ _ _ (by omega) (by omega)).mono ?_; rintro e w' ⟨rfl, rfl⟩) | (refine (in_no _ _ _ _ (by omega)).mono ?_; rintro e w' ⟨rfl, rfl⟩))
              go_ret; exact ⟨(by first | rfl | (simp; done) | (simp [*]; done) | (rw [if_pos (by omega)]; first | rfl | (simp; done)) | (rw [if_neg (by omega)]; first | rfl | (simp; done)) | (simp; omega)), (by repeat (first | exact Below.refl _ _ | apply below_alloc | apply pw_below_drewN | apply below_drew1 | (refine Below.setCell ?_ (by first | (simp; done) | (simp; omega) | omega) _) ))⟩
            · have h100' : ¬ (100 : Int) < to_.size := by omega
              have HL := fun w => listOf_calls to_ w ht
              cases hl : listP okAddr to_ 0 with
              | none =>
                rw [spool_none hl] at h0
                rw [hl] at HL
                subst h0
                clear hl
                have HL := Lib.hid HL
                go_enter Tryd.func53, Tryd.ntmps53
                go_wp2_with (go_at_call 52; first | (refine (in_yes _ _ _ _ (by omega) (by omega)).mono ?_; rintro e w' ⟨rfl, rfl⟩) | (refine (in_no _ _ _ _ (by omega)).mono ?_; rintro e w' ⟨rfl, rfl⟩))
                refine (HL.out _).mono ?_
                intro e w1 hw1
                obtain ⟨rfl, hb1⟩ : _ ∧ _ := hw1
                go_wp2_with (go_at_call 52; first | (refine (in_yes _ _ _ _ (by omega) (by omega)).mono ?_; rintro e w' ⟨rfl, rfl⟩) | (refine (in_no _ _ _ _ (by omega)).mono ?_; rintro e w' ⟨rfl, rfl⟩))
                go_ret
                exact ⟨(by first | rfl | (simp; done) | (simp [*]; done) | (rw [if_pos (by omega)]; first | rfl | (simp; done)) | (rw [if_neg (by omega)]; first | rfl | (simp; done)) | (simp; omega)), (by repeat (first | exact Below.refl _ _ | apply below_alloc | apply pw_below_drewN | apply below_drew1 | (refine Below.setCell ?_ (by first | (simp; done) | (simp; omega) | omega) _) | (refine below_then ?_ (by first | (simp; done) | (simp; omega) | omega) hb1)))⟩
              | some l =>
                rw [spool_one (by omega) hl] at h0
                rw [hl] at HL
                clear hl
                have HL := Lib.hid HL
                by_cases h1 : l.length = 1
                · rw [if_pos h1] at h0
                  subst h0
                  have hl' : (l.length : Int) = 1 := by omega
                  go_enter Tryd.func53, Tryd.ntmps53
                  go_wp2_with (go_at_call 52; first | (refine (in_yes _ _ _ _ (by omega) (by omega)).mono ?_; rintro e w' ⟨rfl, rfl⟩) | (refine (in_no _ _ _ _ (by omega)).mono ?_; rintro e w' ⟨rfl, rfl⟩))
                  refine (HL.out _).mono ?_
                  intro e w1 hw1
                  obtain ⟨v, rfl, hR1, hb1⟩ : ∃ v, _ ∧ _ ∧ _ := hw1
                  obtain ⟨A1, c1, rfl⟩ := Kd.R_slice hR1
                  go_wp2_with (go_at_call 52; first | (refine (in_yes _ _ _ _ (by omega) (by omega)).mono ?_; rintro e w' ⟨rfl, rfl⟩) | (refine (in_no _ _ _ _ (by omega)).mono ?_; rintro e w' ⟨rfl, rfl⟩))
                  go_ret
                  exact ⟨(by first | rfl | (simp; done) | (simp [*]; done) | (rw [if_pos (by omega)]; first | rfl | (simp; done)) | (rw [if_neg (by omega)]; first | rfl | (simp; done)) | (simp; omega)), (by repeat (first | exact Below.refl _ _ | apply below_alloc | apply pw_below_drewN | apply below_drew1 | (refine Below.setCell ?_ (by first | (simp; done) | (simp; omega) | omega) _) | (refine below_then ?_ (by first | (simp; done) | (simp; omega) | omega) hb1)))⟩
                · rw [if_neg h1] at h0
                  subst h0
                  have hl' : ((l.length : Int) != 1) = true := by rw [bne_iff_ne]; omega
                  go_enter Tryd.func53, Tryd.ntmps53
                  go_wp2_with (go_at_call 52; first | (refine (in_yes _ _ _ _ (by omega) (by omega)).mono ?_; rintro e w' ⟨rfl, rfl⟩) | (refine (in_no _ _ _ _ (by omega)).mono ?_; rintro e w' ⟨rfl, rfl⟩))
                  refine (HL.out _).mono ?_
                  intro e w1 hw1
                  obtain ⟨v, rfl, hR1, hb1⟩ : ∃ v, _ ∧ _ ∧ _ := hw1
                  obtain ⟨A1, c1, rfl⟩ := Kd.R_slice hR1
                  go_wp2_with (go_at_call 52; first | (refine (in_yes _ _ _ _ (by omega) (by omega)).mono ?_; rintro e w' ⟨rfl, rfl⟩) | (refine (in_no _ _ _ _ (by omega)).mono ?_; rintro e w' ⟨rfl, rfl⟩))
                  go_ret
                  exact ⟨(by first | rfl | (simp; done) | (simp [*]; done) | (rw [if_pos (by omega)]; first | rfl | (simp; done)) | (rw [if_neg (by omega)]; first | rfl | (simp; done)) | (simp; omega)), (by repeat (first | exact Below.refl _ _ | apply below_alloc | apply pw_below_drewN | apply below_drew1 | (refine Below.setCell ?_ (by first | (simp; done) | (simp; omega) | omega) _) | (refine below_then ?_ (by first | (simp; done) | (simp; omega) | omega) hb1)))⟩
      · have q_ : (f != 0) = true := by rw [bne_iff_ne]; exact hc
        obtain rfl := h3 (eqb_not (fun h => by simp_all)); clear h3 h6 h1 h0; go_enter Tryd.func53, Tryd.ntmps53; go_wp2_with (go_at_call 52; first | (refine (in_yes _ _ _ _ (by omega) (by omega)).mono ?_; rintro e w' ⟨rfl, rfl⟩) | (refine (in_no _ _ _ _ (by omega)).mono ?_; rintro e w' ⟨rfl, rfl⟩)); go_ret; exact ⟨(by first | rfl | (simp; done) | (simp [*]; done) | (rw [if_pos (by omega)]; first | rfl | (simp; done)) | (rw [if_neg (by omega)]; first | rfl | (simp; done)) | (simp; omega)), (by repeat (first | exact Below.refl _ _ | apply below_alloc | apply pw_below_drewN | apply below_drew1 | (refine Below.setCell ?_ (by first | (simp; done) | (simp; omega) | omega) _) ))⟩
    · have q_ : (u != 0) = true := by rw [bne_iff_ne]; exact hc
      obtain rfl := h3 (eqb_not (fun h => by simp_all)); clear h3 h6 h1 h0; go_enter Tryd.func53, Tryd.ntmps53; go_wp2_with (go_at_call 52; first | (refine (in_yes _ _ _ _ (by omega) (by omega)).mono ?_; rintro e w' ⟨rfl, rfl⟩) | (refine (in_no _ _ _ _ (by omega)).mono ?_; rintro e w' ⟨rfl, rfl⟩)); go_ret; exact ⟨(by first | rfl | (simp; done) | (simp [*]; done) | (rw [if_pos (by omega)]; first | rfl | (simp; done)) | (rw [if_neg (by omega)]; first | rfl | (simp; done)) | (simp; omega)), (by repeat (first | exact Below.refl _ _ | apply below_alloc | apply pw_below_drewN | apply below_drew1 | (refine Below.setCell ?_ (by first | (simp; done) | (simp; omega) | omega) _) ))⟩
  · have q_ := lit_no (l := []) hc
    obtain rfl := h3 (eqb_not (fun h => by simp_all)); clear h3 h6 h1 h0; go_enter Tryd.func53, Tryd.ntmps53; go_wp2_with (go_at_call 52; first | (refine (in_yes _ _ _ _ (by omega) (by omega)).mono ?_; rintro e w' ⟨rfl, rfl⟩) | (refine (in_no _ _ _ _ (by omega)).mono ?_; rintro e w' ⟨rfl, rfl⟩)); go_ret; exact ⟨(by first | rfl | (simp; done) | (simp [*]; done) | (rw [if_pos (by omega)]; first | rfl | (simp; done)) | (rw [if_neg (by omega)]; first | rfl | (simp; done)) | (simp; omega)), (by repeat (first | exact Below.refl _ _ | apply below_alloc | apply pw_below_drewN | apply below_drew1 | (refine Below.setCell ?_ (by first | (simp; done) | (simp; omega) | omega) _) ))⟩
set_option maxHeartbeats 1000000 in
set_option maxRecDepth 100000 in
theorem fault_else (k : Int) (bx : ByteArray) (u f : Int) (to_ tx : ByteArray) (w : World) (hk : k < 1 ∨ 6 < k) :
    Calls Tryd.prog 53 #[.agg #[.int .i64 k, .string bx, .int .i64 u, .int .i64 f, .string to_, .string tx]] w fun e w' => e = .returned (.int .i64 (entryFault ⟨k, bx, u, f, to_, tx⟩)) ∧ Below w.heap.size w w' := by
  rw [ef_kind (x := ⟨k, bx, u, f, to_, tx⟩) hk]
  go_enter Tryd.func53, Tryd.ntmps53
  go_wp2_with (go_at_call 52; first | (refine (in_yes _ _ _ _ (by omega) (by omega)).mono ?_; rintro e w' ⟨rfl, rfl⟩) | (refine (in_no _ _ _ _ (by omega)).mono ?_; rintro e w' ⟨rfl, rfl⟩))
  go_ret
  exact ⟨(by first | rfl | (simp; done) | (simp [*]; done) | (rw [if_pos (by omega)]; first | rfl | (simp; done)) | (rw [if_neg (by omega)]; first | rfl | (simp; done)) | (simp; omega)), (by repeat (first | exact Below.refl _ _ | apply below_alloc | apply pw_below_drewN | apply below_drew1 | (refine Below.setCell ?_ (by first | (simp; done) | (simp; omega) | omega) _) ))⟩
theorem entryFault_calls (x : AEntry) (w : World) (hb : x.box.size ≤ 1048576) (ht : x.to_.size ≤ 1048576) (hx : x.text.size ≤ 1048576) :
    Calls Tryd.prog 53 #[.agg #[.int .i64 x.kind, .string x.box, .int .i64 x.uid, .int .i64 x.flags, .string x.to_, .string x.text]] w fun e w' => e = .returned (.int .i64 (entryFault x)) ∧ Below w.heap.size w w' := by
  obtain ⟨k, bx, u, f, to_, tx⟩ := x
  rcases (by omega : (k < 1 ∨ 6 < k) ∨ k = 1 ∨ k = 2 ∨ k = 3 ∨ k = 4 ∨ k = 5 ∨ k = 6) with h | rfl | rfl | rfl | rfl | rfl | rfl
  · exact fault_else k bx u f to_ tx w h
  · exact fault_1 bx u f to_ tx w hb ht hx
  · exact fault_2 bx u f to_ tx w hb ht hx
  · exact fault_3 bx u f to_ tx w hb ht hx
  · exact fault_4 bx u f to_ tx w hb ht hx
  · exact fault_5 bx u f to_ tx w hb ht hx
  · exact fault_6 bx u f to_ tx w hb ht hx
end Go.Proofs.YtijdghplfhfpaaaDoor.H

/- Batches: the walks of batch, book.Check and the reference's BatchFault. -/
namespace Go.Proofs.YtijdghplfhfpaaaDoor.H
open Go.RowKit Go.Proofs.YtijdghplfhfpaaaDoorW.PrintWords Go.Proofs.YtijdghplfhfpaaaDoorW.PrintLast Go.Proofs.YtijdghplfhfpaaaDoor.U
set_option linter.unusedVariables false
set_option linter.unusedSimpArgs false
theorem rowAEntry : RowT Tryd.prog kAEntry 23 40 72 (.agg #[.int .i64 0, .string ⟨#[]⟩, .int .i64 0, .int .i64 0, .string ⟨#[]⟩, .string ⟨#[]⟩]) :=
  ⟨Tryd.underlying23, by kernel_rfl, rfl, by decide, by decide, flat_kd⟩
set_option maxHeartbeats 1000000 in
set_option maxRecDepth 100000 in
theorem entries_calls (A : Option Addr) (c : Nat) (l : List AEntry) (w : World) (hr : Kd.C kAEntry w A l.length l) (hl : l.length * 72 ≤ 140737488355328) :
    Calls Tryd.prog 18 #[.slice A l.length c] w fun e w' => ∃ A1 c1, e = .returned (.slice A1 l.length c1) ∧ Kd.R kAEntry 40 w' w.heap.size (fun _ => True) (.slice A1 l.length c1) l ∧ Below w.heap.size w w' := by
  go_enter Tryd.func18, Tryd.ntmps18
  go_wp2_with (at_builtin; refine clone_list rowAEntry rfl _ _ rfl l A c rfl rfl hr hl ?_; intro A1 c1 w1 hR hb1)
  go_ret
  exact ⟨A1, c1, rfl, hR, hb1⟩
def firstFault : List AEntry → Int
  | [] => 0
  | x :: l => if entryFault x = 0 then firstFault l else entryFault x
def batchFault (u : Int) (l : List AEntry) : Int := if u < 0 ∨ 2 < u then 6 else if l.length < 1 ∨ 10 < l.length then 1 else firstFault l
theorem first_good {l : List AEntry} {k : Nat} (h : k < l.length) (h2 : entryFault l[k] = 0) : firstFault (l.drop k) = firstFault (l.drop (k + 1)) := by
  rw [List.drop_eq_getElem_cons h, firstFault, if_pos h2]
theorem first_bad {l : List AEntry} {k : Nat} (h : k < l.length) (h2 : ¬ entryFault l[k] = 0) : firstFault (l.drop k) = entryFault l[k] := by
  rw [List.drop_eq_getElem_cons h, firstFault, if_neg h2]
theorem first_end (l : List AEntry) : firstFault (l.drop l.length) = 0 := by rw [List.drop_length]; rfl
def okE (x : AEntry) : Prop := x.box.size ≤ 1048576 ∧ x.to_.size ≤ 1048576 ∧ x.text.size ≤ 1048576
set_option maxHeartbeats 1000000 in
set_option maxRecDepth 100000 in
theorem bookCheck_calls (u : Int) (A : Option Addr) (c : Nat) (l : List AEntry) (m : Int) (w : World) (hr : Kd.C kAEntry w A l.length l) (hs : ∀ x ∈ l, okE x) (hm : w.cell? ⟨6, 0, none⟩ = some (.int .i64 m)) (hg : 6 < w.heap.size) :
    Calls Tryd.prog 59 #[.agg #[.int .i64 u, .slice A l.length c]] w fun e w' => e = .returned (.int .i64 (batchFault u l)) ∧ Below w.heap.size w w' := by
  have h63 := hr.2.1
  by_cases hu : u < 0 ∨ 2 < u
  · rw [batchFault, if_pos hu]
    rcases hu with h | h
    · have u1 : u < 0 := h
      go_enter Tryd.func59, Tryd.ntmps59
      go_wp2_with (fail)
      go_ret
      exact ⟨(by first | rfl | (simp; done) | (simp [*]; done) | (rw [if_pos (by omega)]; first | rfl | (simp; done)) | (rw [if_neg (by omega)]; first | rfl | (simp; done)) | (simp; omega)), (by repeat (first | exact Below.refl _ _ | apply below_alloc | apply pw_below_drewN | apply below_drew1 | (refine Below.setCell ?_ (by first | (simp; done) | (simp; omega) | omega) _) ))⟩
    · have u1 : ¬ u < 0 := by omega
      have u2 : 3 ≤ u := by omega
      go_enter Tryd.func59, Tryd.ntmps59
      go_wp2_with (fail)
      go_ret
      exact ⟨(by first | rfl | (simp; done) | (simp [*]; done) | (rw [if_pos (by omega)]; first | rfl | (simp; done)) | (rw [if_neg (by omega)]; first | rfl | (simp; done)) | (simp; omega)), (by repeat (first | exact Below.refl _ _ | apply below_alloc | apply pw_below_drewN | apply below_drew1 | (refine Below.setCell ?_ (by first | (simp; done) | (simp; omega) | omega) _) ))⟩
  · have u1 : ¬ u < 0 := by omega
    have u2 : ¬ 3 ≤ u := by omega
    have u3 : 0 ≤ u := by omega
    have u4 : u ≤ 2 := by omega
    by_cases hl : l.length < 1 ∨ 10 < l.length
    · rw [batchFault, if_neg hu, if_pos hl]
      rcases hl with h | h
      · have l1 : (l.length : Int) < 1 := by omega
        go_enter Tryd.func59, Tryd.ntmps59
        go_wp2_with (fail)
        go_ret
        exact ⟨(by first | rfl | (simp; done) | (simp [*]; done) | (rw [if_pos (by omega)]; first | rfl | (simp; done)) | (rw [if_neg (by omega)]; first | rfl | (simp; done)) | (simp; omega)), (by repeat (first | exact Below.refl _ _ | apply below_alloc | apply pw_below_drewN | apply below_drew1 | (refine Below.setCell ?_ (by first | (simp; done) | (simp; omega) | omega) _) ))⟩
      · have l1 : ¬ (l.length : Int) < 1 := by omega
        have l2 : (10 : Int) < (l.length : Int) := by omega
        go_enter Tryd.func59, Tryd.ntmps59
        go_wp2_with (fail)
        go_ret
        exact ⟨(by first | rfl | (simp; done) | (simp [*]; done) | (rw [if_pos (by omega)]; first | rfl | (simp; done)) | (rw [if_neg (by omega)]; first | rfl | (simp; done)) | (simp; omega)), (by repeat (first | exact Below.refl _ _ | apply below_alloc | apply pw_below_drewN | apply below_drew1 | (refine Below.setCell ?_ (by first | (simp; done) | (simp; omega) | omega) _) ))⟩
    · rw [batchFault, if_neg hu, if_neg hl]
      have l1 : ¬ (l.length : Int) < 1 := by omega
      have l2 : ¬ (10 : Int) < (l.length : Int) := by omega
      have l3 : (1 : Int) ≤ (l.length : Int) := by omega
      have l4 : (l.length : Int) ≤ 10 := by omega
      clear hu hl
      generalize hR : firstFault l = R
      go_enter Tryd.func59, Tryd.ntmps59
      go_wp2_with (fail)
      go_loopw [27] (fun v wr => ∃ k : Nat, k ≤ l.length ∧ v = .int .i64 k ∧ firstFault (l.drop k) = R ∧ Blk wr w.heap.size [.int .i64 u, .slice A l.length c] ∧ Below w.heap.size w wr) (fun v _ => l.length - (intOf v).toNat)
      case atStart => exact ⟨0, Nat.zero_le _, rfl, hR, Blk.made w #[.int .i64 u, .slice A l.length c] _, (by repeat (first | exact Below.refl _ _ | apply below_alloc | apply pw_below_drewN | apply below_drew1 | (refine Below.setCell ?_ (by first | (simp; done) | (simp; omega) | omega) _) ))⟩
      case round =>
        clear hR
        obtain ⟨k, hk, rfl, hR, hblk, hB⟩ := hrel
        have hz := hblk.lt
        have m1 := hblk.at 1 _ rfl
        by_cases hlt : k < l.length
        · obtain ⟨ad, e1, hx0, hxj⟩ := flat_at (Kd.C_below hr hB) k hlt
          subst e1
          have q0 := hx0 _ rfl; have q1 := hxj 1 _ (by decide) rfl; have q2 := hxj 2 _ (by decide) rfl; have q3 := hxj 3 _ (by decide) rfl; have q4 := hxj 4 _ (by decide) rfl; have q5 := hxj 5 _ (by decide) rfl
          clear hx0 hxj
          have hg1 := fun h => first_good hlt h
          have hb1 := fun h => first_bad hlt h
          rw [hR] at hg1 hb1
          obtain ⟨s1, s2, s3⟩ := hs _ (List.getElem_mem hlt)
          have i0 : (0 : Int) ≤ (k : Int) := by omega
          have i1 : (k : Int) < (l.length : Int) := by omega
          generalize l[k] = x at *
          have HF := fun w hm hg => form_calls x m w s1 s2 s3 hm hg
          by_cases hf : entryFault x = 0
          · have hn := hg1 hf
            rw [hf] at HF
            have HF := Lib.hid HF
            have hn := Lib.hid hn
            clear hg1 hb1 hf hR
            go_wp2_with (fail)
            refine (HF.out _ (cell_below (B := wr.heap.size) (by repeat (first | exact Below.refl _ _ | apply below_alloc | apply pw_below_drewN | apply below_drew1 | (refine Below.setCell ?_ (by first | (simp; done) | (simp; omega) | omega) _) )) (cell_below hB hm hg) (by omega)) (by first | (simp; done) | (simp; omega) | omega)).mono ?_
            rintro e w2 ⟨rfl, hc2⟩
            have hb2 : Below wr.heap.size wr w2 := (by repeat (first | exact Below.refl _ _ | apply below_alloc | apply pw_below_drewN | apply below_drew1 | (refine Below.setCell ?_ (by first | (simp; done) | (simp; omega) | omega) _) | (refine below_then ?_ (by first | (simp; done) | (simp; omega) | omega) hc2)))
            have hblk2 := hblk.below hb2 hz
            have hB2 := hB.trans (hb2.mono (by omega))
            clear hc2 hb2 hblk
            go_wp2_with fail
            go_roundw
            case rel => exact ⟨k + 1, hlt, by go_num, hn.out.symm, hblk2, hB2⟩
            case measure => simp [intOf]; omega
          · have hn := hb1 hf
            generalize entryFault x = f at *
            have hfb : (f != 0) = true := by simp [hf]
            subst hn
            have HF := Lib.hid HF
            clear hg1 hb1 hf hR
            go_wp2_with (fail)
            refine (HF.out _ (cell_below (B := wr.heap.size) (by repeat (first | exact Below.refl _ _ | apply below_alloc | apply pw_below_drewN | apply below_drew1 | (refine Below.setCell ?_ (by first | (simp; done) | (simp; omega) | omega) _) )) (cell_below hB hm hg) (by omega)) (by first | (simp; done) | (simp; omega) | omega)).mono ?_
            rintro e w2 ⟨rfl, hc2⟩
            have hb2 : Below wr.heap.size wr w2 := (by repeat (first | exact Below.refl _ _ | apply below_alloc | apply pw_below_drewN | apply below_drew1 | (refine Below.setCell ?_ (by first | (simp; done) | (simp; omega) | omega) _) | (refine below_then ?_ (by first | (simp; done) | (simp; omega) | omega) hc2)))
            have hblk2 := hblk.below hb2 hz
            have hB2 := hB.trans (hb2.mono (by omega))
            clear hc2 hb2 hblk
            go_wp2_with fail
            go_ret
            exact ⟨(by first | rfl | (simp; done) | (simp [*]; done) | (rw [if_pos (by omega)]; first | rfl | (simp; done)) | (rw [if_neg (by omega)]; first | rfl | (simp; done)) | (simp; omega)), (by repeat (first | exact Below.refl _ _ | apply below_alloc | apply pw_below_drewN | apply below_drew1 | (refine Below.setCell ?_ (by first | (simp; done) | (simp; omega) | omega) _) | exact hB2))⟩
        · obtain rfl : k = l.length := by omega
          rw [first_end] at hR
          subst hR
          have i1 : ¬ (l.length : Int) < (l.length : Int) := by omega
          go_wp2_with (fail)
          go_ret
          exact ⟨(by first | rfl | (simp; done) | (simp [*]; done) | (rw [if_pos (by omega)]; first | rfl | (simp; done)) | (rw [if_neg (by omega)]; first | rfl | (simp; done)) | (simp; omega)), (by repeat (first | exact Below.refl _ _ | apply below_alloc | apply pw_below_drewN | apply below_drew1 | (refine Below.setCell ?_ (by first | (simp; done) | (simp; omega) | omega) _) | exact hB))⟩
set_option maxHeartbeats 1000000 in
set_option maxRecDepth 100000 in
theorem batchFault_calls (u : Int) (A : Option Addr) (c : Nat) (l : List AEntry)  (w : World) (hr : Kd.C kAEntry w A l.length l) (hs : ∀ x ∈ l, okE x)  :
    Calls Tryd.prog 60 #[.agg #[.int .i64 u, .slice A l.length c]] w fun e w' => e = .returned (.int .i64 (batchFault u l)) ∧ Below w.heap.size w w' := by
  have h63 := hr.2.1
  by_cases hu : u < 0 ∨ 2 < u
  · rw [batchFault, if_pos hu]
    rcases hu with h | h
    · have u1 : u < 0 := h
      go_enter Tryd.func60, Tryd.ntmps60
      go_wp2_with ((go_at_call 52; first | (refine (in_yes _ _ _ _ (by omega) (by omega)).mono ?_; rintro e w' ⟨rfl, rfl⟩) | (refine (in_no _ _ _ _ (by omega)).mono ?_; rintro e w' ⟨rfl, rfl⟩)))
      go_ret
      exact ⟨(by first | rfl | (simp; done) | (simp [*]; done) | (rw [if_pos (by omega)]; first | rfl | (simp; done)) | (rw [if_neg (by omega)]; first | rfl | (simp; done)) | (simp; omega)), (by repeat (first | exact Below.refl _ _ | apply below_alloc | apply pw_below_drewN | apply below_drew1 | (refine Below.setCell ?_ (by first | (simp; done) | (simp; omega) | omega) _) ))⟩
    · have u1 : ¬ u < 0 := by omega
      have u2 : 3 ≤ u := by omega
      go_enter Tryd.func60, Tryd.ntmps60
      go_wp2_with ((go_at_call 52; first | (refine (in_yes _ _ _ _ (by omega) (by omega)).mono ?_; rintro e w' ⟨rfl, rfl⟩) | (refine (in_no _ _ _ _ (by omega)).mono ?_; rintro e w' ⟨rfl, rfl⟩)))
      go_ret
      exact ⟨(by first | rfl | (simp; done) | (simp [*]; done) | (rw [if_pos (by omega)]; first | rfl | (simp; done)) | (rw [if_neg (by omega)]; first | rfl | (simp; done)) | (simp; omega)), (by repeat (first | exact Below.refl _ _ | apply below_alloc | apply pw_below_drewN | apply below_drew1 | (refine Below.setCell ?_ (by first | (simp; done) | (simp; omega) | omega) _) ))⟩
  · have u1 : ¬ u < 0 := by omega
    have u2 : ¬ 3 ≤ u := by omega
    have u3 : 0 ≤ u := by omega
    have u4 : u ≤ 2 := by omega
    by_cases hl : l.length < 1 ∨ 10 < l.length
    · rw [batchFault, if_neg hu, if_pos hl]
      rcases hl with h | h
      · have l1 : (l.length : Int) < 1 := by omega
        go_enter Tryd.func60, Tryd.ntmps60
        go_wp2_with ((go_at_call 52; first | (refine (in_yes _ _ _ _ (by omega) (by omega)).mono ?_; rintro e w' ⟨rfl, rfl⟩) | (refine (in_no _ _ _ _ (by omega)).mono ?_; rintro e w' ⟨rfl, rfl⟩)))
        go_ret
        exact ⟨(by first | rfl | (simp; done) | (simp [*]; done) | (rw [if_pos (by omega)]; first | rfl | (simp; done)) | (rw [if_neg (by omega)]; first | rfl | (simp; done)) | (simp; omega)), (by repeat (first | exact Below.refl _ _ | apply below_alloc | apply pw_below_drewN | apply below_drew1 | (refine Below.setCell ?_ (by first | (simp; done) | (simp; omega) | omega) _) ))⟩
      · have l1 : ¬ (l.length : Int) < 1 := by omega
        have l2 : (10 : Int) < (l.length : Int) := by omega
        go_enter Tryd.func60, Tryd.ntmps60
        go_wp2_with ((go_at_call 52; first | (refine (in_yes _ _ _ _ (by omega) (by omega)).mono ?_; rintro e w' ⟨rfl, rfl⟩) | (refine (in_no _ _ _ _ (by omega)).mono ?_; rintro e w' ⟨rfl, rfl⟩)))
        go_ret
        exact ⟨(by first | rfl | (simp; done) | (simp [*]; done) | (rw [if_pos (by omega)]; first | rfl | (simp; done)) | (rw [if_neg (by omega)]; first | rfl | (simp; done)) | (simp; omega)), (by repeat (first | exact Below.refl _ _ | apply below_alloc | apply pw_below_drewN | apply below_drew1 | (refine Below.setCell ?_ (by first | (simp; done) | (simp; omega) | omega) _) ))⟩
    · rw [batchFault, if_neg hu, if_neg hl]
      have l1 : ¬ (l.length : Int) < 1 := by omega
      have l2 : ¬ (10 : Int) < (l.length : Int) := by omega
      have l3 : (1 : Int) ≤ (l.length : Int) := by omega
      have l4 : (l.length : Int) ≤ 10 := by omega
      clear hu hl
      generalize hR : firstFault l = R
      go_enter Tryd.func60, Tryd.ntmps60
      go_wp2_with ((go_at_call 52; first | (refine (in_yes _ _ _ _ (by omega) (by omega)).mono ?_; rintro e w' ⟨rfl, rfl⟩) | (refine (in_no _ _ _ _ (by omega)).mono ?_; rintro e w' ⟨rfl, rfl⟩)))
      go_loopw [3] (fun v wr => ∃ k : Nat, k ≤ l.length ∧ v = .int .i64 k ∧ firstFault (l.drop k) = R ∧ Blk wr w.heap.size [.int .i64 u, .slice A l.length c] ∧ Below w.heap.size w wr) (fun v _ => l.length - (intOf v).toNat)
      case atStart => exact ⟨0, Nat.zero_le _, rfl, hR, Blk.made w #[.int .i64 u, .slice A l.length c] _, (by repeat (first | exact Below.refl _ _ | apply below_alloc | apply pw_below_drewN | apply below_drew1 | (refine Below.setCell ?_ (by first | (simp; done) | (simp; omega) | omega) _) ))⟩
      case round =>
        clear hR
        obtain ⟨k, hk, rfl, hR, hblk, hB⟩ := hrel
        have hz := hblk.lt
        have m1 := hblk.at 1 _ rfl
        by_cases hlt : k < l.length
        · obtain ⟨ad, e1, hx0, hxj⟩ := flat_at (Kd.C_below hr hB) k hlt
          subst e1
          have q0 := hx0 _ rfl; have q1 := hxj 1 _ (by decide) rfl; have q2 := hxj 2 _ (by decide) rfl; have q3 := hxj 3 _ (by decide) rfl; have q4 := hxj 4 _ (by decide) rfl; have q5 := hxj 5 _ (by decide) rfl
          clear hx0 hxj
          have hg1 := fun h => first_good hlt h
          have hb1 := fun h => first_bad hlt h
          rw [hR] at hg1 hb1
          obtain ⟨s1, s2, s3⟩ := hs _ (List.getElem_mem hlt)
          have i0 : (0 : Int) ≤ (k : Int) := by omega
          have i1 : (k : Int) < (l.length : Int) := by omega
          generalize l[k] = x at *
          have HF := fun w => entryFault_calls x w s1 s2 s3
          by_cases hf : entryFault x = 0
          · have hn := hg1 hf
            rw [hf] at HF
            have HF := Lib.hid HF
            have hn := Lib.hid hn
            clear hg1 hb1 hf hR
            go_wp2_with ((go_at_call 52; first | (refine (in_yes _ _ _ _ (by omega) (by omega)).mono ?_; rintro e w' ⟨rfl, rfl⟩) | (refine (in_no _ _ _ _ (by omega)).mono ?_; rintro e w' ⟨rfl, rfl⟩)))
            refine (HF.out _).mono ?_
            rintro e w2 ⟨rfl, hb2⟩
            have hblk2 := hblk.below hb2 hz
            have hB2 := hB.trans (hb2.mono (by omega))
            clear hb2 hblk
            go_wp2_with fail
            go_roundw
            case rel => exact ⟨k + 1, hlt, by go_num, hn.out.symm, hblk2, hB2⟩
            case measure => simp [intOf]; omega
          · have hn := hb1 hf
            generalize entryFault x = f at *
            have hfb : (f != 0) = true := by simp [hf]
            subst hn
            have HF := Lib.hid HF
            clear hg1 hb1 hf hR
            go_wp2_with ((go_at_call 52; first | (refine (in_yes _ _ _ _ (by omega) (by omega)).mono ?_; rintro e w' ⟨rfl, rfl⟩) | (refine (in_no _ _ _ _ (by omega)).mono ?_; rintro e w' ⟨rfl, rfl⟩)))
            refine (HF.out _).mono ?_
            rintro e w2 ⟨rfl, hb2⟩
            have hblk2 := hblk.below hb2 hz
            have hB2 := hB.trans (hb2.mono (by omega))
            clear hb2 hblk
            go_wp2_with fail
            go_ret
            exact ⟨(by first | rfl | (simp; done) | (simp [*]; done) | (rw [if_pos (by omega)]; first | rfl | (simp; done)) | (rw [if_neg (by omega)]; first | rfl | (simp; done)) | (simp; omega)), (by repeat (first | exact Below.refl _ _ | apply below_alloc | apply pw_below_drewN | apply below_drew1 | (refine Below.setCell ?_ (by first | (simp; done) | (simp; omega) | omega) _) | exact hB2))⟩
        · obtain rfl : k = l.length := by omega
          rw [first_end] at hR
          subst hR
          have i1 : ¬ (l.length : Int) < (l.length : Int) := by omega
          go_wp2_with ((go_at_call 52; first | (refine (in_yes _ _ _ _ (by omega) (by omega)).mono ?_; rintro e w' ⟨rfl, rfl⟩) | (refine (in_no _ _ _ _ (by omega)).mono ?_; rintro e w' ⟨rfl, rfl⟩)))
          go_ret
          exact ⟨(by first | rfl | (simp; done) | (simp [*]; done) | (rw [if_pos (by omega)]; first | rfl | (simp; done)) | (rw [if_neg (by omega)]; first | rfl | (simp; done)) | (simp; omega)), (by repeat (first | exact Below.refl _ _ | apply below_alloc | apply pw_below_drewN | apply below_drew1 | (refine Below.setCell ?_ (by first | (simp; done) | (simp; omega) | omega) _) | exact hB))⟩
set_option maxHeartbeats 1000000 in
set_option maxRecDepth 100000 in
theorem batch_calls (u : Int) (A : Option Addr) (c : Nat) (l : List AEntry) (w : World) (hr : Kd.C kAEntry w A l.length l) (hl : l.length * 72 ≤ 140737488355328) :
    Calls Tryd.prog 58 #[.agg #[.int .i64 u, .slice A l.length c]] w fun e w' => ∃ A1 c1, e = .returned (.agg #[.int .i64 u, .slice A1 l.length c1]) ∧ Kd.R kAEntry 40 w' w.heap.size (fun _ => True) (.slice A1 l.length c1) l ∧ Below w.heap.size w w' := by
  have HE := Lib.hid (fun w hr => entries_calls A c l w hr hl)
  go_enter Tryd.func58, Tryd.ntmps58
  go_wp2_with fail
  go_region_held3 (fun w' => w'.cell? ⟨w.heap.size, 0, none⟩ = some (.int .i64 u) ∧ w'.cell? ⟨w.heap.size, 1, none⟩ = some (.slice A l.length c))
    (first | go_keep | (refine ⟨?_, ?_⟩ <;> (rw [hc _ _ (by simp; omega)]; simp)))
    ((go_at_call 18; refine (HE.out _ (Kd.C_below hr (by repeat (first | exact Below.refl _ _ | apply below_alloc | apply pw_below_drewN | apply below_drew1)))).mono ?_; rintro e w1 ⟨A1, c1, rfl, hR, hb1⟩; obtain ⟨hc, hf⟩ := bcell hb1))
  go_wp2
  have hz := hb1.size
  simp at hz
  refine bodyPost_ret (v := .agg #[.int .i64 u, .slice A1 l.length c1]) (by simp [results, Tryd.results58, go_sem, hc]) rfl ⟨_, _, rfl, ?_, ?_⟩
  · exact Kd.R_lower (R_elder (R_elder hR (by simp) _) (by simp) _) (by simp; omega)
  · exact ((((((Below.refl w.heap.size w).alloc (Nat.le_refl _) _).alloc (by simp) _).drew).trans (hb1.mono (by simp; omega))).setCell (by simp) _).setCell (by simp) _
end Go.Proofs.YtijdghplfhfpaaaDoor.H

/- Boxes: rows of boxes that a call owns; copies of states. -/
namespace Go.Proofs.YtijdghplfhfpaaaDoor.H
open Go.RowKit Go.Proofs.YtijdghplfhfpaaaDoorW.PrintWords Go.Proofs.YtijdghplfhfpaaaDoorW.PrintLast Go.Proofs.YtijdghplfhfpaaaDoor.U
set_option linter.unusedVariables false
set_option linter.unusedSimpArgs false
theorem rowAMail : RowT Tryd.prog kAMail 75 84 32 (.agg #[.int .i64 0, .int .i64 0, .string ⟨#[]⟩]) :=
  ⟨Tryd.underlying75, by kernel_rfl, rfl, by decide, by decide, flat_kd⟩
theorem S_elder {α : Type} {d : Kd α} {e base : Nat} {w : World} {v : Value} {xs : List α} (h : Kd.S d e w base (fun _ => True) v xs) {p : Addr} (hp : p.block < base) (u : Value) : Kd.S d e (w.setCell p u) base (fun _ => True) v xs :=
  Kd.S_mono (Kd.S_far (Kd.S_bound h) (fun k hk he => by have := hk.2.1; omega) u) (fun _ _ => trivial)
theorem S_younger {α : Type} {d : Kd α} {e base : Nat} {w : World} {v : Value} {xs : List α} (h : Kd.S d e w base (fun _ => True) v xs) {p : Addr} (hp : w.heap.size ≤ p.block) (u : Value) : Kd.S d e (w.setCell p u) base (fun _ => True) v xs :=
  Kd.S_mono (Kd.S_far (Kd.S_bound h) (fun k hk he => by have := hk.2.2.1; omega) u) (fun _ _ => trivial)
section
variable {ops : Array Oper} {rest : List Oper} {o : Oper} {a : Act} {Q : Exit → Act → World → Prop}
/-- append(v, box), the box's mails in a row that was made later. -/
theorem snocS_list (base base2 : Nat) {W : World} (hgd : o.guard = none) (s x : Operand)
    (ho : o.op = .call { callee := .builtin .append, args := #[s, x], argTypes := #[22, 22] })
    (v : Value) (xs : List ABox) (nm : ByteArray) (nx : Int) (l : List AMail) (vb : Value) (hs : a.eval s = v) (hx : a.eval x = .slice (some ⟨W.heap.size, 0, none⟩) 1 1)
    (hM : Kd.R kAMail 84 W base2 (fun _ => True) vb l) (hb2 : base ≤ base2)
    (HO : Kd.S kBox 77 W base (fun k => k < base2) v xs) (hbase : base ≤ W.heap.size) (hl : (xs.length + 1) * 48 ≤ 140737488355328)
    (h : ∀ v1 w1, Kd.S kBox 77 w1 base (fun _ => True) v1 (xs ++ [(nm, nx, l)]) → Below base W w1 → wpList Tryd.prog ops Q rest (a.put o.dst v1) w1) :
    wpList Tryd.prog ops Q (o :: rest) a (W.alloc (.cells #[.string nm, .int .i64 nx, vb] 77)) :=
  Kd.S_append kBox (w0 := W) base hgd s x 22 77 (.agg #[.string ⟨#[]⟩, .int .i64 0, .slice none 0 0]) 48 ho Tryd.underlying22 (by kernel_rfl) rfl (by decide) (by decide) v xs (nm, nx, l) [.string nm, .int .i64 nx, vb] (fun _ => True) (fun k => base2 ≤ k) hs hx
    ⟨[.string nm], [.int .i64 nx, vb], rfl, rfl, ⟨[.int .i64 nx], [vb], rfl, rfl, ⟨vb, rfl, Kd.R_mono (Kd.R_lower (Kd.R_bound hM) hb2) (fun k hk => hk.2.1)⟩⟩⟩
    (fun k hk => ⟨trivial, fun he => by
      obtain ⟨f, hR⟩ := HO
      have := hR.1 k he.symm
      omega⟩) (fun _ _ => trivial) (Kd.S_mono HO (fun k hk => ⟨trivial, by show ¬ base2 ≤ k; omega⟩)) (Below.refl _ _) hbase hl (fun v1 w1 hR hb _ _ => h v1 w1 hR hb)
end
/-- An elder row of boxes beside what was made since. -/
theorem S_since {w w1 : World} {base : Nat} {v : Value} {xs : List ABox} (h : Kd.S kBox 77 w base (fun _ => True) v xs) (hb : Below w.heap.size w w1) : Kd.S kBox 77 w1 base (fun k => k < w.heap.size) v xs :=
  Kd.S_mono (Kd.S_old h hb) (fun _ hk => hk.2)
theorem boxes_take {bs : List ABox} {k : Nat} {nm : ByteArray} {nx : Int} {l : List AMail} (h : k < bs.length) (hb : bs[k] = (nm, nx, l)) : bs.take (k + 1) = bs.take k ++ [(nm, nx, l)] := by
  rw [List.take_succ_eq_append_getElem h, hb]
set_option maxHeartbeats 2000000 in
set_option maxRecDepth 100000 in
theorem states_calls (A : Option Addr) (c : Nat) (bs : List ABox) (A2 : Option Addr) (c2 : Nat) (es : List AEntry) (w : World) (hr : kBox.C w A bs.length bs) (hr2 : Kd.C kAEntry w A2 es.length es) (hl1 : bs.length ≤ 1048576) (hl2 : es.length ≤ 1048576) (hl3 : ∀ b ∈ bs, b.2.2.length ≤ 1048576) :
    Calls Tryd.prog 14 #[.agg #[.slice A bs.length c, .slice A2 es.length c2]] w fun e w' => ∃ vB vS : Value, e = .returned (.agg #[vB, vS]) ∧ Kd.S kBox 77 w' w.heap.size (fun _ => True) vB bs ∧ Kd.R kAEntry 40 w' w.heap.size (fun _ => True) vS es ∧ Below w.heap.size w w' := by
  have h63 := hr.2.1
  obtain ⟨W3, hW3⟩ : ∃ W3 : World, W3 = ((w.alloc (.cells #[.slice A bs.length c, .slice A2 es.length c2] 25)).alloc (.cells #[.slice none 0 0, .slice none 0 0] 25)).alloc (.cells #[.slice none 0 0, .slice none 0 0] 25) := ⟨_, rfl⟩
  have hP : Blk W3 w.heap.size [.slice A bs.length c, .slice A2 es.length c2] := by rw [hW3]; exact ((Blk.made w _ _).alloc _).alloc _
  have hQ : Blk W3 (w.heap.size + 1) [.slice none 0 0, .slice none 0 0] := by rw [hW3]; exact (Blk.made_at _ _ _ (by simp)).alloc _
  have hO : Blk W3 (w.heap.size + 1 + 1) [.slice none 0 0, .slice none 0 0] := by rw [hW3]; exact Blk.made_at _ _ _ (by simp)
  have hB0 : Below w.heap.size w W3 := by rw [hW3]; exact (by repeat (first | exact Below.refl _ _ | apply below_alloc | apply pw_below_drewN | apply below_drew1 | (refine Below.setCell ?_ (by first | (simp; done) | (simp; omega) | omega) _) ))
  have hz0 : W3.heap.size = w.heap.size + 1 + 1 + 1 := by rw [hW3]; simp
  replace hW3 := Lib.hid hW3
  go_enter Tryd.func14, Tryd.ntmps14
  go_wp2_with fail
  rw [← hW3.out]
  go_loopw [4] (fun i wr => ∃ (k : Nat) (vB : Value), k ≤ bs.length ∧ i = .int .i64 k ∧ Kd.S kBox 77 wr (w.heap.size + 1 + 1 + 1) (fun _ => True) vB (bs.take k) ∧ Blk wr w.heap.size [.slice A bs.length c, .slice A2 es.length c2] ∧ Blk wr (w.heap.size + 1) [.slice none 0 0, .slice none 0 0] ∧ Blk wr (w.heap.size + 1 + 1) [vB, .slice none 0 0] ∧ w.heap.size + 1 + 1 + 1 ≤ wr.heap.size ∧ Below w.heap.size w wr) (fun i _ => bs.length - (intOf i).toNat)
  case atStart => exact ⟨0, _, Nat.zero_le _, rfl, Kd.S_nil _ _ _ _ _, hP, hQ, hO, by omega, hB0⟩
  case round =>
    clear hP hQ hO hB0
    obtain ⟨k, vB, hk, rfl, hS, hP, hQ, hO, hz, hB⟩ := hrel
    have p0 := hP.at 0 _ rfl
    by_cases hlt : k < bs.length
    · obtain ⟨ad, Ae, ce, e1, x0, x1, x2, hC⟩ := box_at (Kd.C_below hr hB) k hlt
      subst e1
      rw [add1] at x1
      rw [add2] at x2
      have i0 : (0 : Int) ≤ (k : Int) := by omega
      have i1 : (k : Int) < (bs.length : Int) := by omega
      have hl4 := hl3 _ (List.getElem_mem hlt)
      obtain ⟨nm, nx, l, hbk⟩ : ∃ nm nx l, bs[k] = (nm, nx, l) := ⟨_, _, _, rfl⟩
      have htk := Lib.hid (boxes_take hlt hbk)
      rw [hbk] at x0 x1 x2 hC hl4
      simp only at x0 x1 x2 hC hl4
      clear hbk
      obtain ⟨Ab, cb, rfl⟩ := Kd.S_slice hS
      have hlk : (bs.take k).length = k := by rw [List.length_take]; omega
      rw [hlk] at hO
      rw [hlk] at hS
      replace hlk := Lib.hid hlk
      have hX := Blk.made wr #[.string nm, .int .i64 nx, .slice Ae l.length ce] 77
      have hB1 : Below wr.heap.size wr (wr.alloc (.cells #[.string nm, .int .i64 nx, .slice Ae l.length ce] 77)) := (by repeat (first | exact Below.refl _ _ | apply below_alloc | apply pw_below_drewN | apply below_drew1 | (refine Below.setCell ?_ (by first | (simp; done) | (simp; omega) | omega) _) ))
      go_wp2_with (at_builtin; refine clone_list rowAMail rfl _ _ rfl l Ae ce (by first | rfl | (simp [Act.eval]; done)) (by first | rfl | (simp [Act.eval]; done)) (Kd.C_below hC (by repeat (first | exact Below.refl _ _ | apply below_alloc | apply pw_below_drewN | apply below_drew1 | (refine Below.setCell ?_ (by first | (simp; done) | (simp; omega) | omega) _) ))) (by omega) ?_)
      intro A1 c1 w1 hR1 hb1
      have hz1 := hb1.size
      simp at hz1
      have hX1 := hX.below hb1 (by first | (simp; done) | (simp; omega) | omega)
      have hO1 := (hO.alloc (.cells #[.string nm, .int .i64 nx, .slice Ae l.length ce] 77)).below hb1 (by first | (simp; done) | (simp; omega) | omega)
      have nn : ¬ w.heap.size + 1 + 1 = wr.heap.size := by omega
      have nn2 : ¬ wr.heap.size = w.heap.size + 1 + 1 := by omega
      have o0 := hO1.at 0 _ rfl
      have o1 := hO1.free 0 _ rfl
      have y0 := hX1.at 0 _ rfl
      have y1 := hX1.at 1 _ rfl
      have y2 := hX1.at 2 _ rfl
      have f2 := hX1.free 2 _ rfl
      have hB2 : Below wr.heap.size wr w1 := hB1.trans (hb1.mono (by first | (simp; done) | (simp; omega) | omega))
      have hM2 : Kd.R kAMail 84 (w1.setCell ⟨wr.heap.size, 2, none⟩ (.slice A1 l.length c1)) (wr.heap.size + 1) (fun _ => True) (.slice A1 l.length c1) l := R_elder (Kd.R_lower hR1 (by simp)) (show wr.heap.size < wr.heap.size + 1 by omega) _
      have hS2 : Kd.S kBox 77 (w1.setCell ⟨wr.heap.size, 2, none⟩ (.slice A1 l.length c1)) (w.heap.size + 1 + 1 + 1) (fun k => k < wr.heap.size + 1) (.slice Ab k cb) (bs.take k) :=
        Kd.S_mono (Kd.S_far (p := ⟨wr.heap.size, 2, none⟩) (S_since hS hB2) (fun k hk => by show k ≠ wr.heap.size; omega) _) (fun k hk => by show k < wr.heap.size + 1; omega)
      go_wp2_with (at_builtin; refine snocS_list (w.heap.size + 1 + 1 + 1) (wr.heap.size + 1) rfl _ _ rfl (.slice Ab k cb) (bs.take k) nm nx l (.slice A1 l.length c1) (by first | rfl | (simp [Act.eval]; done)) (by first | rfl | (simp [Act.eval]; done)) hM2 (by omega) hS2 (by simp; omega) (by rw [hlk.out]; omega) ?_)
      intro v9 w9 hS9 hb9
      have hz9 := hb9.size
      simp at hz9
      have hO9 := (hO1.other (c := wr.heap.size) (j := 2) nn2 (.slice A1 l.length c1)).below hb9 (by omega)
      have hP9 := ((hP.below hB2 (by omega)).other (c := wr.heap.size) (j := 2) (by omega) (.slice A1 l.length c1)).below hb9 (by omega)
      have hQ9 := ((hQ.below hB2 (by omega)).other (c := wr.heap.size) (j := 2) (by omega) (.slice A1 l.length c1)).below hb9 (by omega)
      have g0 := hO9.at 0 _ rfl
      have g1 := hO9.free 0 _ rfl
      have hB9 : Below w.heap.size w w9 := by
        refine Below.trans (Below.setCell (hB.trans (hB2.mono (by omega))) (show w.heap.size ≤ wr.heap.size by omega) _) (hb9.mono (by omega))
      clear o0 o1 y0 y1 y2 f2 hO1 hX1 hS2 hM2 hb9 hb1 hR1
      obtain ⟨A9, c9, h9⟩ := Kd.S_slice hS9
      rw [List.length_append, hlk.out] at h9
      subst h9
      go_wp2_with fail
      go_roundw
      case rel => exact ⟨k + 1, _, hlt, by go_num, by rw [htk.out]; exact S_elder hS9 (by show w.heap.size + 1 + 1 < w.heap.size + 1 + 1 + 1; omega) _, hP9.other (by omega) _, hQ9.other (by omega) _, hO9.set 0 _ (by simp), by simp; omega, Below.setCell hB9 (by show w.heap.size ≤ w.heap.size + 1 + 1; omega) _⟩
      case measure => simp [intOf]; omega
    · obtain rfl : k = bs.length := by omega
      rw [List.take_length] at hS
      have p1 := hP.at 1 _ rfl
      have o1 := hO.free 1 _ rfl
      have o2 := hO.at 1 _ rfl
      have o0 := hO.at 0 _ rfl
      have i1 : ¬ (bs.length : Int) < (bs.length : Int) := by omega
      obtain ⟨Ab, cb, rfl⟩ := Kd.S_slice hS
      have HE := Lib.hid (entries_calls A2 c2 es wr (Kd.C_below hr2 hB) (by omega))
      go_wp2_with fail
      refine HE.out.mono ?_
      rintro e w1 ⟨A1, c1, rfl, hR1, hb1⟩
      have hz1 := hb1.size
      have hO1 := hO.below hb1 (by omega)
      have hQ1 := hQ.below hb1 (by omega)
      have g0 := hO1.at 0 _ rfl
      have g1 := hO1.at 1 _ rfl
      have g2 := hO1.free 1 _ rfl
      have q0 := hQ1.at 0 _ rfl
      have q1 := hQ1.at 1 _ rfl
      have q2 := hQ1.free 0 _ rfl
      have q3 := hQ1.free 1 _ rfl
      clear o0 o1 o2 p0 p1
      go_wp2_with fail
      refine bodyPost_ret (v := .agg #[.slice Ab bs.length cb, .slice A1 es.length c1]) (by simp [results, Tryd.results14, go_sem, *]) rfl ?_
      have hB1 := hB.trans (hb1.mono (by omega))
      refine ⟨_, _, rfl, ?_, ?_, (by repeat (first | exact Below.refl _ _ | apply below_alloc | apply pw_below_drewN | apply below_drew1 | (refine Below.setCell ?_ (by first | (simp; done) | (simp; omega) | omega) _) | exact hB1))⟩
      · exact Kd.S_lower (S_elder (S_elder (S_elder (Kd.S_below hS hb1) (show w.heap.size + 1 + 1 < w.heap.size + 1 + 1 + 1 by omega) _) (show w.heap.size + 1 < w.heap.size + 1 + 1 + 1 by omega) _) (show w.heap.size + 1 < w.heap.size + 1 + 1 + 1 by omega) _) (by omega)
      · exact Kd.R_lower (R_elder (R_elder (R_elder hR1 (show w.heap.size + 1 + 1 < wr.heap.size by omega) _) (show w.heap.size + 1 < wr.heap.size by omega) _) (show w.heap.size + 1 < wr.heap.size by omega) _) (by omega)
end Go.Proofs.YtijdghplfhfpaaaDoor.H

/- Boxes: what an entry does to a state, in plain words; what stays true. -/
namespace Go.Proofs.YtijdghplfhfpaaaDoor.H
open Go.RowKit Go.Proofs.YtijdghplfhfpaaaDoorW.PrintWords Go.Proofs.YtijdghplfhfpaaaDoorW.PrintLast Go.Proofs.YtijdghplfhfpaaaDoor.U
set_option linter.unusedVariables false
set_option linter.unusedSimpArgs false
/-- Where the first mail with a uid stands; -1: there is none. -/
def findU (u : Int) : List AMail → Int → Int
  | [], _ => -1
  | m :: l, k => if m.uid = u then k else findU u l (k + 1)
def keepM (m : AMail) : Bool := decide (m.flags / 8 % 2 = 0)
def addV (bs : List ABox) (i : Nat) (fl : Int) (tx : ByteArray) : Int × List ABox :=
  match bs[i]? with
  | none => (5, bs)
  | some b => if 30 ≤ b.2.2.length ∨ 1048576 < b.2.1 ∨ 6000 < stSize bs + tx.size then (5, bs) else (0, bs.set i (b.1, b.2.1 + 1, b.2.2 ++ [⟨b.2.1, fl, tx⟩]))
def mailsAt (bs : List ABox) (i : Nat) : List AMail := match bs[i]? with | none => [] | some b => b.2.2
def putMails (bs : List ABox) (i : Nat) (l : List AMail) : List ABox := match bs[i]? with | none => bs | some b => bs.set i (b.1, b.2.1, l)
def flagsAt (l : List AMail) (k : Nat) (f : Int) : List AMail := match l[k]? with | none => l | some m => l.set k ⟨m.uid, f, m.text⟩
def copyV (bs : List ABox) (l : List AMail) (k : Nat) (z : Int) : Int × List ABox :=
  if z < 0 then (7, bs) else match l[k]? with | none => (7, bs) | some m => addV bs z.toNat m.flags m.text
def mailV (bs : List ABox) (i : Nat) (x : AEntry) : Int × List ABox :=
  if x.kind = 2 then addV bs i x.flags x.text
  else if x.kind = 4 then (0, putMails bs i ((mailsAt bs i).filter keepM))
  else if findU x.uid (mailsAt bs i) 0 < 0 then (7, bs)
  else if x.kind = 3 then (0, putMails bs i (flagsAt (mailsAt bs i) (findU x.uid (mailsAt bs i) 0).toNat x.flags))
  else copyV bs (mailsAt bs i) (findU x.uid (mailsAt bs i) 0).toNat (findG x.to_ bs 0)
def entV (bs : List ABox) (es : List AEntry) (x : AEntry) : Int × List ABox × List AEntry :=
  if x.kind = 6 then (if 20 ≤ es.length then (5, bs, es) else (0, bs, es ++ [x]))
  else if x.kind = 1 then (if 0 ≤ findG x.box bs 0 then (10, bs, es) else if 5 ≤ bs.length then (5, bs, es) else (0, bs ++ [(x.box, 1, [])], es))
  else if findG x.box bs 0 < 0 then (7, bs, es)
  else ((mailV bs (findG x.box bs 0).toNat x).1, (mailV bs (findG x.box bs 0).toNat x).2, es)
def foldE : List ABox → List AEntry → List AEntry → Int × List ABox × List AEntry
  | bs, es, [] => (0, bs, es)
  | bs, es, x :: l => if entryFault x ≠ 0 then (entryFault x, [], []) else if (entV bs es x).1 ≠ 0 then ((entV bs es x).1, [], []) else foldE (entV bs es x).2.1 (entV bs es x).2.2 l
def allV (bs : List ABox) (es l : List AEntry) : Int × List ABox × List AEntry :=
  if stFault bs es ≠ 0 then (stFault bs es, [], []) else if 10 < l.length then (1, [], []) else foldE bs es l
/-- What may be, of a box: what the steps want. -/
def GoodB (b : ABox) : Prop := b.1.size ≤ 1048576 ∧ 1 ≤ b.2.1 ∧ b.2.1 ≤ 1048577 ∧ b.2.2.length ≤ 30 ∧ mailsOk b.2.1 0 b.2.2 = true
def InvS (bs : List ABox) (es : List AEntry) : Prop := bs.length ≤ 5 ∧ es.length ≤ 20 ∧ ∀ b ∈ bs, GoodB b
theorem mails_cons {nx last : Int} {m : AMail} {l : List AMail} : mailsOk nx last (m :: l) = true ↔ ¬ mailBad nx last m ∧ mailsOk nx m.uid l = true := by
  rw [mailsOk]
  by_cases h : mailBad nx last m
  · rw [if_pos h]; exact ⟨fun h2 => absurd h2 (by decide), fun h2 => absurd h h2.1⟩
  · rw [if_neg h]; exact ⟨fun h2 => ⟨h, h2⟩, fun h2 => h2.2⟩
theorem not_bad {nx last : Int} {m : AMail} : ¬ mailBad nx last m ↔ last < m.uid ∧ m.uid < nx ∧ 0 ≤ m.flags ∧ m.flags ≤ 31 ∧ m.text.size ≤ 2000 := by
  unfold mailBad
  constructor
  · intro h
    refine ⟨?_, ?_, ?_, ?_, ?_⟩
    · exact Int.lt_of_not_ge fun h2 => h (.inl h2)
    · exact Int.lt_of_not_ge fun h2 => h (.inr (.inl h2))
    · exact Int.le_of_not_gt fun h2 => h (.inr (.inr (.inl h2)))
    · exact Int.le_of_not_gt fun h2 => h (.inr (.inr (.inr (.inl h2))))
    · exact Nat.le_of_not_gt fun h2 => h (.inr (.inr (.inr (.inr h2))))
  · rintro ⟨h1, h2, h3, h4, h5⟩ h
    rcases h with h | h | h | h | h <;> omega
theorem mails_snoc {nx fl : Int} {tx : ByteArray} (h3 : 0 ≤ fl) (h4 : fl ≤ 31) (h5 : tx.size ≤ 2000) : ∀ (l : List AMail) (last : Int), last < nx → mailsOk nx last l = true → mailsOk (nx + 1) last (l ++ [⟨nx, fl, tx⟩]) = true
  | [], last, hl, _ => by
    rw [List.nil_append, mails_cons, not_bad]
    exact ⟨⟨hl, by show nx < nx + 1; omega, h3, h4, h5⟩, rfl⟩
  | m :: l, last, hl, h => by
    rw [mails_cons, not_bad] at h
    rw [List.cons_append, mails_cons, not_bad]
    obtain ⟨⟨a1, a2, a3, a4, a5⟩, h⟩ := h
    exact ⟨⟨a1, by omega, a3, a4, a5⟩, mails_snoc h3 h4 h5 l m.uid a2 h⟩
theorem mails_filter {nx : Int} {p : AMail → Bool} : ∀ (l : List AMail) (last last' : Int), last' ≤ last → mailsOk nx last l = true → mailsOk nx last' (l.filter p) = true
  | [], _, _, _, _ => rfl
  | m :: l, last, last', hl, h => by
    rw [mails_cons, not_bad] at h
    obtain ⟨⟨a1, a2, a3, a4, a5⟩, h⟩ := h
    by_cases hp : p m = true
    · rw [List.filter_cons_of_pos hp, mails_cons, not_bad]
      exact ⟨⟨by omega, a2, a3, a4, a5⟩, mails_filter l m.uid m.uid (Int.le_refl _) h⟩
    · rw [List.filter_cons_of_neg hp]
      exact mails_filter l m.uid last' (by omega) h
theorem mails_flags {nx f : Int} (h0 : 0 ≤ f) (h1 : f ≤ 31) : ∀ (l : List AMail) (last : Int) (k : Nat), mailsOk nx last l = true → mailsOk nx last (flagsAt l k f) = true
  | [], _, _, _ => rfl
  | m :: l, last, 0, h => by
    rw [mails_cons, not_bad] at h
    obtain ⟨⟨a1, a2, a3, a4, a5⟩, h⟩ := h
    show mailsOk nx last (⟨m.uid, f, m.text⟩ :: l) = true
    rw [mails_cons, not_bad]
    exact ⟨⟨a1, a2, h0, h1, a5⟩, h⟩
  | m :: l, last, k + 1, h => by
    rw [mails_cons] at h
    have ih := mails_flags h0 h1 l m.uid k h.2
    unfold flagsAt at ih ⊢
    rw [List.getElem?_cons_succ]
    cases hk : l[k]? with
    | none => exact mails_cons.2 h
    | some z =>
      rw [hk] at ih
      show mailsOk nx last ((m :: l).set (k + 1) _) = true
      rw [List.set_cons_succ, mails_cons]
      exact ⟨h.1, ih⟩
theorem mails_mem {nx : Int} : ∀ (l : List AMail) (last : Int), mailsOk nx last l = true → ∀ m ∈ l, last < m.uid ∧ m.uid < nx ∧ 0 ≤ m.flags ∧ m.flags ≤ 31 ∧ m.text.size ≤ 2000
  | [], _, _, _, hm => by cases hm
  | m :: l, last, h, z, hz => by
    rw [mails_cons, not_bad] at h
    obtain ⟨⟨a1, a2, a3, a4, a5⟩, h⟩ := h
    rcases List.mem_cons.1 hz with rfl | hz
    · exact ⟨a1, a2, a3, a4, a5⟩
    · obtain ⟨b1, b2⟩ := mails_mem l m.uid h z hz
      exact ⟨by omega, b2⟩
theorem flagsAt_length (l : List AMail) (k : Nat) (f : Int) : (flagsAt l k f).length = l.length := by
  unfold flagsAt; split <;> simp
theorem good_add {b : ABox} {fl : Int} {tx : ByteArray} (h : GoodB b) (h1 : ¬ 30 ≤ b.2.2.length) (h2 : ¬ 1048576 < b.2.1) (h3 : 0 ≤ fl) (h4 : fl ≤ 31) (h5 : tx.size ≤ 2000) : GoodB (b.1, b.2.1 + 1, b.2.2 ++ [⟨b.2.1, fl, tx⟩]) := by
  obtain ⟨a1, a2, a3, a4, a5⟩ := h
  refine ⟨a1, by show 1 ≤ b.2.1 + 1; omega, by show b.2.1 + 1 ≤ 1048577; omega, by show (b.2.2 ++ [_]).length ≤ 30; simp; omega, ?_⟩
  exact mails_snoc h3 h4 h5 b.2.2 0 (by omega) a5
theorem inv_set {bs : List ABox} {i : Nat} {b : ABox} (h : ∀ b ∈ bs, GoodB b) (hb : GoodB b) : ∀ z ∈ bs.set i b, GoodB z := fun z hz => by
  rcases List.mem_or_eq_of_mem_set hz with h1 | rfl
  · exact h z h1
  · exact hb
theorem inv_addV {bs : List ABox} {i : Nat} {fl : Int} {tx : ByteArray} (h : ∀ b ∈ bs, GoodB b) (h3 : 0 ≤ fl) (h4 : fl ≤ 31) (h5 : tx.size ≤ 2000) : (addV bs i fl tx).2.length = bs.length ∧ ∀ b ∈ (addV bs i fl tx).2, GoodB b := by
  unfold addV
  split
  · exact ⟨rfl, h⟩
  · rename_i b hb
    split
    · exact ⟨rfl, h⟩
    · rename_i hn
      exact ⟨List.length_set, inv_set h (good_add (h b (List.mem_of_getElem? hb)) (fun h1 => hn (.inl h1)) (fun h1 => hn (.inr (.inl h1))) h3 h4 h5)⟩
theorem inv_put {bs : List ABox} {i : Nat} {l : List AMail} (h : ∀ b ∈ bs, GoodB b) (hl : ∀ b, bs[i]? = some b → l.length ≤ 30 ∧ mailsOk b.2.1 0 l = true) : (putMails bs i l).length = bs.length ∧ ∀ b ∈ putMails bs i l, GoodB b := by
  unfold putMails
  split
  · exact ⟨rfl, h⟩
  · rename_i b hb
    obtain ⟨a1, a2, a3, a4, a5⟩ := h b (List.mem_of_getElem? hb)
    exact ⟨List.length_set, inv_set h ⟨a1, a2, a3, (hl b hb).1, (hl b hb).2⟩⟩
theorem inv_mailV {bs : List ABox} {i : Nat} {x : AEntry} (h : ∀ b ∈ bs, GoodB b) (h3 : 0 ≤ x.flags) (h4 : x.flags ≤ 31) (h5 : x.text.size ≤ 2000) : (mailV bs i x).2.length = bs.length ∧ ∀ b ∈ (mailV bs i x).2, GoodB b := by
  have hat : ∀ b, bs[i]? = some b → mailsAt bs i = b.2.2 := fun b hb => by unfold mailsAt; rw [hb]
  unfold mailV
  split
  · exact inv_addV h h3 h4 h5
  · split
    · refine inv_put h fun b hb => ?_
      obtain ⟨a1, a2, a3, a4, a5⟩ := h b (List.mem_of_getElem? hb)
      rw [hat b hb]
      exact ⟨Nat.le_trans (List.length_filter_le _ _) a4, mails_filter _ _ _ (Int.le_refl _) a5⟩
    · split
      · exact ⟨rfl, h⟩
      · split
        · refine inv_put h fun b hb => ?_
          obtain ⟨a1, a2, a3, a4, a5⟩ := h b (List.mem_of_getElem? hb)
          rw [hat b hb]
          exact ⟨by rw [flagsAt_length]; exact a4, mails_flags h3 h4 _ _ _ a5⟩
        · unfold copyV
          split
          · exact ⟨rfl, h⟩
          · split
            · exact ⟨rfl, h⟩
            · rename_i m hm
              have hm2 : m ∈ mailsAt bs i := List.mem_of_getElem? hm
              cases hb : bs[i]? with
              | none => unfold mailsAt at hm2; rw [hb] at hm2; cases hm2
              | some b =>
                rw [hat b hb] at hm2
                obtain ⟨a1, a2, a3, a4, a5⟩ := h b (List.mem_of_getElem? hb)
                obtain ⟨c1, c2, c3, c4, c5⟩ := mails_mem _ _ a5 m hm2
                exact inv_addV h c3 c4 c5
theorem ef_ok {x : AEntry} (h : entryFault x = 0) : 1 ≤ x.kind ∧ x.kind ≤ 6 ∧ 0 ≤ x.flags ∧ x.flags ≤ 31 ∧ x.text.size ≤ 2000 ∧ (x.kind ≠ 6 → x.box.size ≤ 12) := by
  by_cases h1 : x.kind < 1 ∨ 6 < x.kind
  · rw [ef_kind h1] at h; cases h
  · cases h2 : eqbAEntry x (bareE x) with
    | false => rw [ef_form h1 h2] at h; cases h
    | true =>
      by_cases h3 : x.flags < 0 ∨ 31 < x.flags ∨ x.uid < 0 ∨ 1048576 < x.uid
      · rw [ef_range h1 h2 h3] at h; cases h
      · by_cases h4 : 2000 < x.text.size
        · rw [ef_size h1 h2 h3 h4] at h; cases h
        · refine ⟨by omega, by omega, by omega, by omega, by omega, fun h6 => ?_⟩
          rw [ef_tail h1 h2 h3 h4, if_neg h6] at h
          have hn : nameFault x.box = 0 := by
            unfold nameTail at h
            by_cases hn : nameFault x.box = 0
            · exact hn
            · exfalso
              first
                | (rw [if_neg hn] at h; exact hn h)
                | (rw [if_pos hn] at h; exact hn h)
                | (split at h <;> first | exact hn h | (rename_i hh; exact hn hh) | simp_all)
          by_cases hs : x.box.size < 1 ∨ 12 < x.box.size
          · rw [nf_one hs] at hn; cases hn
          · omega
theorem inv_ent {bs : List ABox} {es : List AEntry} {x : AEntry} (h : InvS bs es) (hx : entryFault x = 0) : InvS (entV bs es x).2.1 (entV bs es x).2.2 := by
  obtain ⟨i1, i2, i3⟩ := h
  obtain ⟨x1, x2, x3, x4, x5, x6⟩ := ef_ok hx
  unfold entV
  split
  · split
    · exact ⟨i1, i2, i3⟩
    · exact ⟨i1, by show (es ++ [x]).length ≤ 20; simp; omega, i3⟩
  · rename_i h6
    split
    · split
      · exact ⟨i1, i2, i3⟩
      · split
        · exact ⟨i1, i2, i3⟩
        · refine ⟨by show (bs ++ [_]).length ≤ 5; simp; omega, i2, fun b hb => ?_⟩
          rcases List.mem_append.1 hb with hb | hb
          · exact i3 b hb
          · obtain rfl := List.mem_singleton.1 hb
            have := x6 h6
            exact ⟨by show x.box.size ≤ 1048576; omega, by show (1 : Int) ≤ 1; omega, by show (1 : Int) ≤ 1048577; omega, by simp, rfl⟩
    · split
      · exact ⟨i1, i2, i3⟩
      · obtain ⟨l1, l2⟩ := inv_mailV (i := (findG x.box bs 0).toNat) i3 x3 x4 x5
        exact ⟨by show (mailV bs _ x).2.length ≤ 5; omega, i2, l2⟩
theorem boxes_all {bs : List ABox} : ∀ (n k : Nat), bs.length - k = n → boxesFrom bs k = true → ∀ j (h : j < bs.length), k ≤ j → boxOk bs[j] = true := by
  intro n
  induction n with
  | zero => intro k hk _ j hj hkj; omega
  | succ n ih =>
    intro k hk h j hj hkj
    have hlt : k < bs.length := by omega
    rw [boxesFrom, dif_pos hlt] at h
    by_cases hb : boxOk bs[k] = true ∧ findG bs[k].1 (bs.take k) 0 < 0
    · rw [if_pos hb] at h
      rcases Nat.eq_or_lt_of_le hkj with rfl | hkj
      · exact hb.1
      · exact ih (k + 1) (by omega) h j hj hkj
    · rw [if_neg hb] at h; cases h
theorem inv_of_ok {bs : List ABox} {es : List AEntry} (hs : okSt bs es) (h : stFault bs es = 0) : InvS bs es := by
  unfold stFault at h
  by_cases h1 : 5 < bs.length ∨ 20 < es.length
  · rw [if_pos h1] at h; cases h
  · rw [if_neg h1] at h
    refine ⟨by omega, by omega, fun b hb => ?_⟩
    obtain ⟨j, hj, rfl⟩ := List.mem_iff_getElem.1 hb
    have hbf : boxesFrom bs 0 = true := by
      unfold stTail at h
      by_cases h2 : boxesFrom bs 0 = true
      · exact h2
      · rw [if_neg h2] at h; cases h
    have hbo := boxes_all _ 0 rfl hbf j hj (Nat.zero_le _)
    have hsz := hs.1 _ hb
    unfold boxOk at hbo
    split at hbo
    · cases hbo
    · rename_i h3
      exact ⟨hsz, by have : ¬ bs[j].2.1 < 1 := fun h4 => h3 (.inr (.inl h4)); omega, by have : ¬ 1048577 < bs[j].2.1 := fun h4 => h3 (.inr (.inr (.inl h4))); omega,
        by have : ¬ 30 < bs[j].2.2.length := fun h4 => h3 (.inr (.inr (.inr h4))); omega, hbo⟩
theorem inv_size {bs : List ABox} (h : ∀ b ∈ bs, GoodB b) : stSize bs ≤ bs.length * 60000 := by
  unfold stSize
  induction bs with
  | nil => simp
  | cons b bs ih =>
    have h1 := ih (fun z hz => h z (List.mem_cons_of_mem _ hz))
    obtain ⟨a1, a2, a3, a4, a5⟩ := h b (List.mem_cons_self ..)
    have h2 := mails_sz a5
    rw [List.map_cons, List.sum_cons, List.length_cons, Nat.add_mul]
    omega
theorem findU_snoc (u : Int) (m : AMail) : ∀ (l : List AMail) (i : Int), 0 ≤ i → findU u (l ++ [m]) i = if 0 ≤ findU u l i then findU u l i else if m.uid = u then i + l.length else -1
  | [], i, h => by
    by_cases hm : m.uid = u
    · simp [findU, hm]
    · simp [findU, hm]
  | z :: l, i, h => by
    rw [List.cons_append, findU, findU]
    by_cases hz : z.uid = u
    · rw [if_pos hz, if_pos hz, if_pos h]
    · rw [if_neg hz, if_neg hz, findU_snoc u m l (i + 1) (by omega)]
      split
      · rfl
      · split
        · simp; omega
        · rfl
theorem findU_none {u : Int} : ∀ (l : List AMail) (i : Int), (∀ m ∈ l, m.uid ≠ u) → findU u l i = -1
  | [], _, _ => rfl
  | z :: l, i, h => by
    rw [findU, if_neg (h z (List.mem_cons_self ..))]
    exact findU_none l _ fun m hm => h m (List.mem_cons_of_mem _ hm)
theorem findU_lt {u : Int} : ∀ (l : List AMail) (i : Int), findU u l i = -1 ∨ i ≤ findU u l i ∧ findU u l i < i + l.length
  | [], _ => .inl rfl
  | z :: l, i => by
    rw [findU]
    by_cases hz : z.uid = u
    · rw [if_pos hz]; right; simp; omega
    · rw [if_neg hz]
      rcases findU_lt (u := u) l (i + 1) with h | h
      · exact .inl h
      · right; simp; omega
theorem findG_lt {nm : ByteArray} : ∀ (l : List ABox) (i : Int), findG nm l i = -1 ∨ i ≤ findG nm l i ∧ findG nm l i < i + l.length
  | [], _ => .inl rfl
  | z :: l, i => by
    rw [findG]
    by_cases hz : z.1 = nm
    · rw [if_pos hz]; right; simp; omega
    · rw [if_neg hz]
      rcases findG_lt (nm := nm) l (i + 1) with h | h
      · exact .inl h
      · right; simp; omega
/-- Uids rise: those ahead of one are lesser. -/
theorem mails_rise {nx : Int} : ∀ (l : List AMail) (last : Int) (k : Nat) (h : k < l.length), mailsOk nx last l = true → ∀ m ∈ l.take k, m.uid < l[k].uid
  | [], _, _, h, _, _, _ => by cases h
  | z :: l, last, 0, _, _, m, hm => by cases hm
  | z :: l, last, k + 1, h, ho, m, hm => by
    rw [mails_cons] at ho
    rw [List.take_succ_cons] at hm
    have hk : k < l.length := by simpa using h
    show m.uid < l[k].uid
    rcases List.mem_cons.1 hm with rfl | hm
    · exact (mails_mem l _ ho.2 l[k] (List.getElem_mem hk)).1
    · exact mails_rise l _ k hk ho.2 m hm
/-- The reference's search, a step: the last one is the first. -/
theorem findU_step {nx u : Int} {l : List AMail} {k : Nat} (h : k < l.length) (ho : mailsOk nx 0 l = true) : findU u (l.take (k + 1)) 0 = if l[k].uid = u then (k : Int) else findU u (l.take k) 0 := by
  rw [List.take_succ_eq_append_getElem h, findU_snoc u _ _ 0 (Int.le_refl _)]
  have hl : (l.take k).length = k := by rw [List.length_take]; omega
  by_cases hu : l[k].uid = u
  · have hn : findU u (l.take k) 0 = -1 := findU_none _ _ fun m hm he => by
      have := mails_rise l 0 k h ho m hm
      omega
    rw [hn, if_neg (by decide), if_pos hu, if_pos hu, hl]; simp
  · rw [if_neg hu, if_neg hu]
    split
    · rfl
    · rename_i h2
      rcases findU_lt (u := u) (l.take k) 0 with h3 | h3
      · exact h3.symm
      · exact absurd h3.1 h2
theorem filter_step (p : AMail → Bool) {l : List AMail} {k : Nat} (h : k < l.length) : (l.take (k + 1)).filter p = (l.take k).filter p ++ if p l[k] = true then [l[k]] else [] := by
  rw [List.take_succ_eq_append_getElem h, List.filter_append]
  by_cases hp : p l[k] = true
  · rw [if_pos hp, List.filter_cons_of_pos hp]; rfl
  · rw [if_neg hp, List.filter_cons_of_neg hp]; rfl
end Go.Proofs.YtijdghplfhfpaaaDoor.H

/- Boxes: a row of boxes that a call owns, a box of it written. -/
namespace Go.Proofs.YtijdghplfhfpaaaDoor.H
open Go.RowKit Go.Proofs.YtijdghplfhfpaaaDoorW.PrintWords Go.Proofs.YtijdghplfhfpaaaDoorW.PrintLast Go.Proofs.YtijdghplfhfpaaaDoor.U
set_option linter.unusedVariables false
set_option linter.unusedSimpArgs false
section
variable {w w1 : World} {base g n cap i pb : Nat} {bs : List ABox} {es : List AEntry} {ok oki : Nat → Prop} {nm : ByteArray} {nx nx' : Int} {vM v1 : Value} {l : List AMail}
theorem box_lend (h : Kd.S kBox 77 w base ok (.slice (some ⟨g, 0, none⟩) n cap) bs) (hi : i < bs.length) (hb : bs[i] = (nm, nx, l)) :
    ∃ oki vM, w.cell? ⟨g, i * 3, none⟩ = some (.string nm) ∧ w.cell? ⟨g, i * 3 + 1, none⟩ = some (.int .i64 nx) ∧ w.cell? ⟨g, i * 3 + 2, none⟩ = some vM ∧ w.frozen? ⟨g, i * 3 + 1, none⟩ = false ∧ w.frozen? ⟨g, i * 3 + 2, none⟩ = false ∧
      Kd.R kAMail 84 w base oki vM l ∧ (∀ k, oki k → ok k ∧ k ≠ g) ∧ Kd.H kBox 77 w base ok (.slice (some ⟨g, 0, none⟩) n cap) bs i oki [.string nm, .int .i64 nx, vM] := by
  obtain ⟨hn, _, _⟩ := Kd.S_reads' h
  obtain ⟨oki, c, hcl, hM, hcc, hfr, hoki, hH⟩ := Kd.S_elem h (nm, nx, l) (i : Int) (by omega) (by omega)
  rw [Int.toNat_natCast] at hM hcc hfr
  have hg : bs.getD i (nm, nx, l) = (nm, nx, l) := by rw [List.getD_eq_getElem?_getD, List.getElem?_eq_getElem hi, hb]; rfl
  rw [hg] at hM
  obtain ⟨c0, c1, hcs, h0, ⟨c2, c3, h1, h2, ⟨vM, h3, hR⟩⟩⟩ := hM
  have h0' : c0 = [.string nm] := h0
  have h2' : c2 = [.int .i64 nx] := h2
  subst h0' h2' h3 h1 hcs
  exact ⟨oki, vM, hcc 0 _ rfl, hcc 1 _ rfl, hcc 2 _ rfl, hfr 1, hfr 2, hR, hoki, hH⟩
theorem box_hole2 (h : Kd.H kBox 77 w base ok (.slice (some ⟨g, 0, none⟩) n cap) bs i oki [.string nm, .int .i64 nx, vM]) (hi : i < n) (h1 : v1.oneCell' = true) :
    Kd.H kBox 77 (w.setCell ⟨g, i * 3 + 2, none⟩ v1) base ok (.slice (some ⟨g, 0, none⟩) n cap) bs i oki [.string nm, .int .i64 nx, v1] :=
  (Kd.H_seg h (Int.natCast_nonneg i) (by omega) (seg := [v1]) (j := 2) (by show 2 + 1 ≤ 3; omega) (fun q hq => by rw [List.mem_singleton.1 hq]; exact h1)).1
theorem box_hole1 (h : Kd.H kBox 77 w base ok (.slice (some ⟨g, 0, none⟩) n cap) bs i oki [.string nm, .int .i64 nx, vM]) (hi : i < n) :
    Kd.H kBox 77 (w.setCell ⟨g, i * 3 + 1, none⟩ (.int .i64 nx')) base ok (.slice (some ⟨g, 0, none⟩) n cap) bs i oki [.string nm, .int .i64 nx', vM] :=
  (Kd.H_seg h (Int.natCast_nonneg i) (by omega) (seg := [.int .i64 nx']) (j := 1) (by show 1 + 1 ≤ 3; omega) (fun q hq => by rw [List.mem_singleton.1 hq]; rfl)).1
theorem box_back (h : Kd.H kBox 77 w base ok (.slice (some ⟨g, 0, none⟩) n cap) bs i oki [.string nm, .int .i64 nx, vM]) (hR : Kd.R kAMail 84 w base oki vM l) :
    Kd.S kBox 77 w base ok (.slice (some ⟨g, 0, none⟩) n cap) (bs.set i (nm, nx, l)) :=
  Kd.H_back h (okp := oki) ⟨[.string nm], [.int .i64 nx, vM], rfl, rfl, ⟨[.int .i64 nx], [vM], rfl, rfl, ⟨vM, rfl, hR⟩⟩⟩ (fun _ hk => hk)
/-- A state that a call owns: its two slices stand in block pb, beside its rows. -/
def StB (w : World) (base pb : Nat) (bs : List ABox) (es : List AEntry) : Prop :=
  ∃ vB vS, Blk w pb [vB, vS] ∧ base ≤ pb ∧ Kd.S kBox 77 w base (fun k => k ≠ pb) vB bs ∧ Kd.R kAEntry 40 w base (fun k => k ≠ pb) vS es
theorem StB.lt (h : StB w base pb bs es) : pb < w.heap.size := by obtain ⟨_, _, hb, _⟩ := h; exact hb.lt
theorem StB.bases (h : StB w base pb bs es) : base ≤ w.heap.size := by obtain ⟨_, _, hb, hp, _⟩ := h; have := hb.lt; omega
theorem StB.new (h : StB w base pb bs es) (hb : Below w.heap.size w w1) : StB w1 base pb bs es := by
  obtain ⟨vB, vS, hk, hp, hS, hR⟩ := h
  exact ⟨vB, vS, hk.below hb hk.lt, hp, Kd.S_below hS hb, Kd.R_below hR hb⟩
theorem typed_ne {α : Type} {d : Kd α} {e e' : Nat} {v : Value} {xs : List α} (h : d.R e w base ok v xs) {t : Nat} {cells : Array Value} (hb : w.heap[g]? = some (.cells cells t (0, 0))) (ht : e ≠ t) : v.ownBlock ≠ some g := fun he => Kd.R_ne h hb ht he.symm
/-- What an append to a box's mails leaves of the rest of the state. -/
theorem entries_over {vS : Value} (h : Kd.R kAEntry 40 w base ok vS es) {okm : Nat → Prop} (hM : Kd.R kAMail 84 w base okm vM l) (hg : w.grownBy w1 vM.ownBlock) : Kd.R kAEntry 40 w1 base ok vS es :=
  Kd.R_over' h (Kd.R_typed hM) (by decide) hg
end
section
variable {ops : Array Oper} {o : Oper} {a : Act} {Q : Exit → Act → World → Prop} {Kc : Act → World → Prop}
/-- append(v, mail) in a region that draws, the row's blocks told. -/
theorem mail_step (base : Nat) {W : World} (hw : Region.wanted o (yielded ops a.tmps) = true) (s x : Operand)
    (ho : o.op = .call { callee := .builtin .append, args := #[s, x], argTypes := #[75, 75] })
    (v : Value) (xs : List AMail) (p : AMail) (ok : Nat → Prop) (hs : a.eval s = v) (hx : a.eval x = .slice (some ⟨W.heap.size, 0, none⟩) 1 1) (hfresh : ∀ k, W.heap.size ≤ k → ok k)
    (HO : Kd.R kAMail 84 W base ok v xs) (hbase : base ≤ W.heap.size) (hl : (xs.length + 1) * 32 ≤ 140737488355328)
    (h : ∀ v1 w1, Kd.R kAMail 84 w1 base ok v1 (xs ++ [p]) → Below base W w1 → W.grownBy w1 v.ownBlock → Kc (a.put o.dst v1) w1) :
    if Region.wanted o (yielded ops a.tmps) = true then Oper.wp Tryd.prog o a (W.alloc (.cells #[.int .i64 p.uid, .int .i64 p.flags, .string p.text] 84)) Kc Q else Kc (a.put o.dst undef) (W.alloc (.cells #[.int .i64 p.uid, .int .i64 p.flags, .string p.text] 84)) :=
  Kd.R_append_step kAMail (w0 := W) base hw s x 75 84 _ 32 ho rowAMail.ht rowAMail.hinfo rowAMail.hz rowAMail.hs0 rowAMail.hb0 v xs p [.int .i64 p.uid, .int .i64 p.flags, .string p.text] ok (fun _ => False) hs hx rfl (fun _ h => h.elim) hfresh HO (Below.refl _ _) hbase hl
    (fun v1 w1 hR hb hg _ => h v1 w1 hR hb hg)
end
end Go.Proofs.YtijdghplfhfpaaaDoor.H

/- Boxes: box.add. -/
namespace Go.Proofs.YtijdghplfhfpaaaDoor.H
open Go.RowKit Go.Proofs.YtijdghplfhfpaaaDoorW.PrintWords Go.Proofs.YtijdghplfhfpaaaDoorW.PrintLast Go.Proofs.YtijdghplfhfpaaaDoor.U
set_option linter.unusedVariables false
set_option linter.unusedSimpArgs false
theorem addV_full {bs : List ABox} {i : Nat} {fl : Int} {tx : ByteArray} {nm : ByteArray} {nx : Int} {l : List AMail} (hi : i < bs.length) (hb : bs[i] = (nm, nx, l)) (h : 30 ≤ l.length ∨ 1048576 < nx ∨ 6000 < stSize bs + tx.size) : addV bs i fl tx = (5, bs) := by
  unfold addV
  rw [List.getElem?_eq_getElem hi, hb]
  exact if_pos h
theorem addV_room {bs : List ABox} {i : Nat} {fl : Int} {tx : ByteArray} {nm : ByteArray} {nx : Int} {l : List AMail} (hi : i < bs.length) (hb : bs[i] = (nm, nx, l)) (h : ¬ (30 ≤ l.length ∨ 1048576 < nx ∨ 6000 < stSize bs + tx.size)) : addV bs i fl tx = (0, bs.set i (nm, nx + 1, l ++ [⟨nx, fl, tx⟩])) := by
  unfold addV
  rw [List.getElem?_eq_getElem hi, hb]
  exact if_neg h
set_option maxHeartbeats 2000000 in
set_option maxRecDepth 100000 in
theorem add_calls (pb i : Nat) (fl : Int) (tx : ByteArray) (base : Nat) (bs : List ABox) (es : List AEntry) (w : World) (h : StB w base pb bs es) (hinv : InvS bs es) (hi : i < bs.length) (htx : tx.size ≤ 2000) :
    Calls Tryd.prog 91 #[.pointer (some ⟨pb, 0, none⟩), .int .i64 i, .int .i64 fl, .string tx] w fun e w' => e = .returned (.int .i64 (addV bs i fl tx).1) ∧ StB w' base pb (addV bs i fl tx).2 es ∧ Below base w w' := by
  have hbase := h.bases
  have hpb := h.lt
  obtain ⟨vB, vS, hk, hp, hS, hE⟩ := h
  obtain ⟨g, cap, rfl, hgb, hgl, cells, hgc⟩ := Kd.S_form hS (by omega)
  obtain ⟨hn, hcap, hC⟩ := Kd.S_reads' hS
  obtain ⟨nm, nx, l, hb⟩ : ∃ nm nx l, bs[i] = (nm, nx, l) := ⟨_, _, _, rfl⟩
  have hgd : GoodB (nm, nx, l) := by rw [← hb]; exact hinv.2.2 _ (List.getElem_mem hi)
  obtain ⟨g1, g2, g3, g4, g5⟩ := hgd
  simp only at g1 g2 g3 g4 g5
  obtain ⟨oki, vM, x0, x1, x2, f1, f2, hR, hoki, hH⟩ := box_lend hS hi hb
  obtain ⟨Am, cm, rfl⟩ := Kd.R_slice hR
  have hng : g ≠ pb := fun he => by
    have h2 := Kd.S_R hS
    have := h2.1 g (by simp [Value.ownBlock])
    exact this he
  have hng2 : pb ≠ g := Ne.symm hng
  have b0 := hk.at 0 _ rfl
  have b1 := hk.at 1 _ rfl
  have i0 : (0 : Int) ≤ (i : Int) := by omega
  have i1 : (i : Int) < (bs.length : Int) := by omega
  have hsz : stSize bs ≤ 300000 := by
    have h2 := inv_size hinv.2.2
    have h3 : bs.length * 60000 ≤ 5 * 60000 := Nat.mul_le_mul_right _ hinv.1
    omega
  have ea : (⟨g, 0, none⟩ : Addr).add (i * 3) = ⟨g, i * 3, none⟩ := add_plain _ _
  have HZ := Lib.hid (fun W hr => size_calls (some ⟨g, 0, none⟩) cap bs vS W (by obtain ⟨A, c, hh⟩ := Kd.R_slice hE; exact ⟨A, _, c, hh⟩) hr (by omega))
  have hwr : IntKind.i64.wrap ((stSize bs : Int) + (tx.size : Int)) = (stSize bs : Int) + (tx.size : Int) := by rw [IntKind.wrap_i64]; omega
  obtain ⟨A3, c3, rfl⟩ := Kd.R_slice hE
  by_cases h30 : l.length = 30
  · rw [addV_full hi hb (.inl (by omega))]
    have hst : StB w base pb bs es := ⟨_, _, hk, hp, hS, hE⟩
    have e30 : ((l.length : Int) == 30) = true := by rw [beq_iff_eq]; omega
    clear hR hH hC hS hE
    go_enter Tryd.func91, Tryd.ntmps91
    go_wp2_with fail
    go_ret
    exact ⟨(by first | rfl | (simp; done) | (simp [*]; done) | (rw [if_pos (by omega)]; first | rfl | (simp; done)) | (rw [if_neg (by omega)]; first | rfl | (simp; done)) | (simp; omega)), hst, Below.refl _ _⟩
  · have e30 : ((l.length : Int) == 30) = false := by rw [beq_eq_false_iff_ne]; omega
    by_cases hnx : 1048576 < nx
    · rw [addV_full hi hb (.inr (.inl hnx))]
      have hst : StB w base pb bs es := ⟨_, _, hk, hp, hS, hE⟩
      clear hR hH hC hS hE h30
      go_enter Tryd.func91, Tryd.ntmps91
      go_wp2_with fail
      go_ret
      exact ⟨(by first | rfl | (simp; done) | (simp [*]; done) | (rw [if_pos (by omega)]; first | rfl | (simp; done)) | (rw [if_neg (by omega)]; first | rfl | (simp; done)) | (simp; omega)), hst, Below.refl _ _⟩
    · by_cases h6 : 6000 < stSize bs + tx.size
      · rw [addV_full hi hb (.inr (.inr h6))]
        have hst : StB w base pb bs es := ⟨_, _, hk, hp, hS, hE⟩
        have h6' : (6000 : Int) < (stSize bs : Int) + (tx.size : Int) := by omega
        generalize stSize bs = z at *
        clear hR hH hS hE h30
        go_enter Tryd.func91, Tryd.ntmps91
        go_wp2_with fail
        refine (HZ.out _ (by assumption)).mono ?_
        rintro e w1 ⟨rfl, hb1⟩
        go_wp2_with fail
        go_ret
        exact ⟨(by first | rfl | (simp; done) | (simp [*]; done) | (rw [if_pos (by omega)]; first | rfl | (simp; done)) | (rw [if_neg (by omega)]; first | rfl | (simp; done)) | (simp; omega)), hst.new hb1, hb1.mono hbase⟩
      · rw [addV_room hi hb (by intro h; rcases h with h | h | h <;> omega)]
        have h6' : ¬ (6000 : Int) < (stSize bs : Int) + (tx.size : Int) := by omega
        generalize stSize bs = z at *
        clear h30
        go_enter Tryd.func91, Tryd.ntmps91
        go_wp2_with fail
        refine (HZ.out _ (by assumption)).mono ?_
        rintro e w1 ⟨rfl, hb1⟩
        have hz1 := hb1.size
        have y1 := (hb1.cell (p := ⟨g, i * 3 + 1, none⟩) hgl).trans x1
        have y2 := (hb1.cell (p := ⟨g, i * 3 + 2, none⟩) hgl).trans x2
        have e1 := (hb1.frozen (p := ⟨g, i * 3 + 1, none⟩) hgl).trans f1
        have e2 := (hb1.frozen (p := ⟨g, i * 3 + 2, none⟩) hgl).trans f2
        have hH1 := Kd.H_widen (Kd.H_drew (Kd.H_below hH hb1))
        have hR1 : Kd.R kAMail 84 w1.drew base (fun k => oki k ∨ k ≠ pb ∧ w1.drew.heap.size ≤ k) (.slice Am l.length cm) l := Kd.R_mono (Kd.R_drew (Kd.R_below hR hb1)) (fun k hk => .inl hk)
        have hng3 : ∀ k, (oki k ∨ k ≠ pb ∧ w1.drew.heap.size ≤ k) → k ≠ g := fun k hk => by
          rcases hk with hk | hk
          · exact (hoki k hk).2
          · have := hk.2; simp at this; omega
        have hgo : some g ≠ (Value.slice Am l.length cm).ownBlock := fun he => hng3 g (hR1.1 g he.symm) rfl
        have hpo : some pb ≠ (Value.slice Am l.length cm).ownBlock := fun he => by
          rcases hR1.1 pb he.symm with h2 | h2
          · exact (hoki pb h2).1 rfl
          · exact h2.1 rfl
        go_wp2_with fail
        have y2a := cell_alloc' y2 (.cells #[.int .i64 nx, .int .i64 fl, .string tx] 84)
        have y2d := cell_drew' y2
        have y1d := cell_drew' y1
        refine wp_region_held_drew (S := fun w' => w'.cell? ⟨g, i * 3 + 1, none⟩ = some (.int .i64 nx)) (by kernel_rfl) ?_ (fun hHeld => ?_)
        · exact y1d
        refine wpAnyH_take (i := 0) (oi := { dst := some 39, op := _, type := _, pos := _, after := _, guard := _ }) (v := .pointer (some ⟨g, i * 3, none⟩)) rfl (by kernel_rfl) (by kernel_rfl) (by kernel_rfl) (fun _ _ _ h => h) (Or.inl ⟨by rfl, by (intro w hSw; (try dsimp only at hSw); first | (go_simp; done) | (go_simp; with_reducible rfl) | (go_simp; omega) | (go_simp; simp [*]; done))⟩) (by assumption) ?_; try simp only [Act.put, List.setIfInBounds_toArray, List.set_cons_zero, List.set_cons_succ]
        refine wpAnyH_take (i := 1) (oi := { dst := some 40, op := _, type := _, pos := _, after := _, guard := _ }) (v := .pointer (some ⟨g, i * 3, none⟩)) rfl (by kernel_rfl) (by kernel_rfl) (by kernel_rfl) (fun _ _ _ h => h) (Or.inl ⟨by rfl, by (intro w hSw; (try dsimp only at hSw); first | (go_simp; done) | (go_simp; with_reducible rfl) | (go_simp; omega) | (go_simp; simp [*]; done))⟩) (by assumption) ?_; try simp only [Act.put, List.setIfInBounds_toArray, List.set_cons_zero, List.set_cons_succ]
        refine wpAnyH_take (i := 2) (oi := { dst := some 41, op := _, type := _, pos := _, after := _, guard := _ }) (v := .pointer (some ⟨g, i * 3, none⟩)) rfl (by kernel_rfl) (by kernel_rfl) (by kernel_rfl) (fun _ _ _ h => h) (Or.inl ⟨by rfl, by (intro w hSw; (try dsimp only at hSw); first | (go_simp; done) | (go_simp; with_reducible rfl) | (go_simp; omega) | (go_simp; simp [*]; done))⟩) (by assumption) ?_; try simp only [Act.put, List.setIfInBounds_toArray, List.set_cons_zero, List.set_cons_succ]
        refine wpAnyH_take (i := 3) (oi := { dst := some 42, op := _, type := _, pos := _, after := _, guard := _ }) (v := .pointer (some ⟨g, i * 3 + 2, none⟩)) rfl (by kernel_rfl) (by kernel_rfl) (by kernel_rfl) (fun _ _ _ h => h) (Or.inl ⟨by rfl, by (intro w hSw; (try dsimp only at hSw); first | (go_simp; done) | (go_simp; with_reducible rfl) | (go_simp; omega) | (go_simp; simp [*]; done))⟩) (by assumption) ?_; try simp only [Act.put, List.setIfInBounds_toArray, List.set_cons_zero, List.set_cons_succ]
        refine wpAnyH_take (i := 5) (oi := { dst := some 44, op := _, type := _, pos := _, after := _, guard := _ }) (v := .pointer (some ⟨g, i * 3, none⟩)) rfl (by kernel_rfl) (by kernel_rfl) (by kernel_rfl) (fun _ _ _ h => h) (Or.inl ⟨by rfl, by (intro w hSw; (try dsimp only at hSw); first | (go_simp; done) | (go_simp; with_reducible rfl) | (go_simp; omega) | (go_simp; simp [*]; done))⟩) (by assumption) ?_; try simp only [Act.put, List.setIfInBounds_toArray, List.set_cons_zero, List.set_cons_succ]
        refine wpAnyH_take (i := 6) (oi := { dst := some 45, op := _, type := _, pos := _, after := _, guard := _ }) (v := .pointer (some ⟨g, i * 3, none⟩)) rfl (by kernel_rfl) (by kernel_rfl) (by kernel_rfl) (fun _ _ _ h => h) (Or.inl ⟨by rfl, by (intro w hSw; (try dsimp only at hSw); first | (go_simp; done) | (go_simp; with_reducible rfl) | (go_simp; omega) | (go_simp; simp [*]; done))⟩) (by assumption) ?_; try simp only [Act.put, List.setIfInBounds_toArray, List.set_cons_zero, List.set_cons_succ]
        refine wpAnyH_take (i := 7) (oi := { dst := some 46, op := _, type := _, pos := _, after := _, guard := _ }) (v := .pointer (some ⟨g, i * 3 + 1, none⟩)) rfl (by kernel_rfl) (by kernel_rfl) (by kernel_rfl) (fun _ _ _ h => h) (Or.inl ⟨by rfl, by (intro w hSw; (try dsimp only at hSw); first | (go_simp; done) | (go_simp; with_reducible rfl) | (go_simp; omega) | (go_simp; simp [*]; done))⟩) (by assumption) ?_; try simp only [Act.put, List.setIfInBounds_toArray, List.set_cons_zero, List.set_cons_succ]
        refine wpAnyH_take (i := 8) (oi := { dst := some 47, op := _, type := _, pos := _, after := _, guard := _ }) (v := .int .i64 nx) rfl (by kernel_rfl) (by kernel_rfl) (by kernel_rfl) (fun _ _ _ h => h) (Or.inl ⟨by rfl, by (intro w hSw; (try dsimp only at hSw); first | (go_simp; done) | (go_simp; with_reducible rfl) | (go_simp; omega) | (go_simp; simp [*]; done))⟩) (by assumption) ?_; try simp only [Act.put, List.setIfInBounds_toArray, List.set_cons_zero, List.set_cons_succ]
        refine wpAnyH_take (i := 9) (oi := { dst := some 48, op := _, type := _, pos := _, after := _, guard := _ }) (v := .int .i64 fl) rfl (by kernel_rfl) (by kernel_rfl) (by kernel_rfl) (fun _ _ _ h => h) (Or.inl ⟨by rfl, by (intro w hSw; (try dsimp only at hSw); first | (go_simp; done) | (go_simp; with_reducible rfl) | (go_simp; omega) | (go_simp; simp [*]; done))⟩) (by assumption) ?_; try simp only [Act.put, List.setIfInBounds_toArray, List.set_cons_zero, List.set_cons_succ]
        refine wpAnyH_take (i := 10) (oi := { dst := some 49, op := _, type := _, pos := _, after := _, guard := _ }) (v := .string tx) rfl (by kernel_rfl) (by kernel_rfl) (by kernel_rfl) (fun _ _ _ h => h) (Or.inl ⟨by rfl, by (intro w hSw; (try dsimp only at hSw); first | (go_simp; done) | (go_simp; with_reducible rfl) | (go_simp; omega) | (go_simp; simp [*]; done))⟩) (by assumption) ?_; try simp only [Act.put, List.setIfInBounds_toArray, List.set_cons_zero, List.set_cons_succ]
        refine wpAnyH_take (i := 11) (oi := { dst := some 50, op := _, type := _, pos := _, after := _, guard := _ }) (v := .agg #[.int .i64 nx, .int .i64 fl, .string tx]) rfl (by kernel_rfl) (by kernel_rfl) (by kernel_rfl) (fun _ _ _ h => h) (Or.inl ⟨by rfl, by (intro w hSw; (try dsimp only at hSw); first | (go_simp; done) | (go_simp; with_reducible rfl) | (go_simp; omega) | (go_simp; simp [*]; done))⟩) (by assumption) ?_; try simp only [Act.put, List.setIfInBounds_toArray, List.set_cons_zero, List.set_cons_succ]
        refine wpAnyH_ready (rs := [4, 12]) (by kernel_rfl) (by simp) ?_
        refine AllReadyH.cons (o := { dst := some 43, op := _, type := _, pos := _, after := _, guard := _ }) rfl (fun K hK => ?_) (AllReadyH.cons (o := { dst := some 51, op := _, type := _, pos := _, after := _, guard := _ }) rfl (fun K hK => ?_) AllReadyH.nil)
        · go_simp
          refine hK.out _ _ y1d (fun hHeld => ?_)
          clear hK K
          refine wpAnyH_ready (rs := [12]) (by kernel_rfl) (by simp) ?_
          refine AllReadyH.cons (o := { dst := some 51, op := _, type := _, pos := _, after := _, guard := _ }) rfl (fun K hK => ?_) AllReadyH.nil
          go_simp
          refine hK.out _ _ (cell_alloc' y1d _) (fun hHeld => ?_)
          clear hK K
          refine wpAnyH_ready (rs := [13]) (by kernel_rfl) (by simp) ?_
          refine AllReadyH.cons (o := { dst := some 52, op := _, type := _, pos := _, after := _, guard := _ }) rfl (fun K hK => ?_) AllReadyH.nil
          refine mail_step base (by rfl) (.tmp 43) (.tmp 51) (by rfl) (.slice Am l.length cm) l ⟨nx, fl, tx⟩ (fun k => oki k ∨ k ≠ pb ∧ w1.drew.heap.size ≤ k) (by rfl) (by rfl) (fun k hk => .inr ⟨(by simp at hk; omega), hk⟩) hR1 (by simp; omega) (by omega) ?_
          intro v1 w5 hR5 hb5 hg5
          obtain ⟨A5, c5, h5⟩ := Kd.R_slice hR5
          rw [List.length_append] at h5
          subst h5
          have z1 := (hg5.cell_far ⟨g, i * 3 + 1, none⟩ (by simp; omega) hgo).trans y1d
          have z2 := (hg5.cell_far ⟨g, i * 3 + 2, none⟩ (by simp; omega) hgo).trans y2d
          have z3 : w5.frozen? ⟨g, i * 3 + 1, none⟩ = false := (hg5.frozen_far ⟨g, i * 3 + 1, none⟩ (by simp; omega) hgo).trans (by simpa using e1)
          have z4 : w5.frozen? ⟨g, i * 3 + 2, none⟩ = false := (hg5.frozen_far ⟨g, i * 3 + 2, none⟩ (by simp; omega) hgo).trans (by simpa using e2)
          refine hK.out _ _ z1 (fun hHeld => ?_)
          clear hK K
          refine wpAnyH_take (i := 14) (oi := { dst := some 53, op := _, type := _, pos := _, after := _, guard := _ }) (v := .pointer (some ⟨g, i * 3, none⟩)) rfl (by kernel_rfl) (by kernel_rfl) (by kernel_rfl) (fun _ _ _ h => h) (Or.inl ⟨by rfl, by (intro w hSw; (try dsimp only at hSw); first | (go_simp; done) | (go_simp; with_reducible rfl) | (go_simp; omega) | (go_simp; simp [*]; done))⟩) (by assumption) ?_; try simp only [Act.put, List.setIfInBounds_toArray, List.set_cons_zero, List.set_cons_succ]
          refine wpAnyH_take (i := 15) (oi := { dst := some 54, op := _, type := _, pos := _, after := _, guard := _ }) (v := .pointer (some ⟨g, i * 3 + 2, none⟩)) rfl (by kernel_rfl) (by kernel_rfl) (by kernel_rfl) (fun _ _ _ h => h) (Or.inl ⟨by rfl, by (intro w hSw; (try dsimp only at hSw); first | (go_simp; done) | (go_simp; with_reducible rfl) | (go_simp; omega) | (go_simp; simp [*]; done))⟩) (by assumption) ?_; try simp only [Act.put, List.setIfInBounds_toArray, List.set_cons_zero, List.set_cons_succ]
          refine wpAnyH_ready (rs := [16]) (by kernel_rfl) (by simp) ?_
          refine AllReadyH.cons (o := { dst := none, op := _, type := _, pos := _, after := _, guard := _ }) rfl (fun K hK => ?_) AllReadyH.nil
          go_simp
          have z5 : (w5.setCell ⟨g, i * 3 + 2, none⟩ (.slice A5 (l.length + 1) c5)).cell? ⟨g, i * 3 + 1, none⟩ = some (.int .i64 nx) := by
            rw [World.cell?_setCell_other _ _ _ _ (by simp)]; exact z1
          refine hK.out _ _ z5 (fun hHeld => ?_)
          clear hK K
          refine wpAnyH_done (by kernel_rfl) ?_ _
          have hH5 := Kd.H_grown hH1 hg5 (fun k hk => hR1.1 k hk)
          have hk5 := ((((hk.below hb1 hpb).drew).grown hg5 hpo).other (c := g) (j := i * 3 + 2) hng (.slice A5 (l.length + 1) c5)).other (c := g) (j := i * 3 + 1) hng (.int .i64 (nx + 1))
          have hS5 := box_back (box_hole1 (nx' := nx + 1) (box_hole2 (v1 := .slice A5 (l.length + 1) c5) hH5 hi rfl) hi) (Kd.R_far (p := ⟨g, i * 3 + 1, none⟩) (Kd.R_far (p := ⟨g, i * 3 + 2, none⟩) hR5 hng3 (.slice A5 (l.length + 1) c5)) hng3 (.int .i64 (nx + 1)))
          have hg6 : w5.heap[g]? = some (.cells cells 77 (0, 0)) := (hg5.block g (by simp; omega) hgo).trans ((hb1.block g hgl).trans hgc)
          have hE5 := Kd.R_mono (Kd.R_far (p := ⟨g, i * 3 + 1, none⟩) (Kd.R_far (p := ⟨g, i * 3 + 2, none⟩) (Kd.R_types (entries_over (Kd.R_drew (Kd.R_below hE hb1)) hR1 hg5) hg6 (by decide)) (fun k hk => hk.2) (.slice A5 (l.length + 1) c5)) (fun k hk => hk.2) (.int .i64 (nx + 1))) (fun k hk => hk.1)
          have hB5 := Below.setCell (p := ⟨g, i * 3 + 1, none⟩) (Below.setCell (p := ⟨g, i * 3 + 2, none⟩) (Below.trans (below_drew (hb1.mono hbase)) hb5) hgb (.slice A5 (l.length + 1) c5)) hgb (.int .i64 (nx + 1))
          have hw : IntKind.i64.wrap (nx + 1) = nx + 1 := by rw [IntKind.wrap_i64]; omega
          clear hH5 hH1 hH hR5 hR1 hR hE hS hC z1 z2 y1 y2 y1d y2d y2a e1 e2 x0 x1 x2 f1 f2 hg6
          go_wp2_with fail
          go_ret
          exact ⟨(by first | rfl | (simp; done) | (simp [*]; done) | (rw [if_pos (by omega)]; first | rfl | (simp; done)) | (rw [if_neg (by omega)]; first | rfl | (simp; done)) | (simp; omega)), ⟨_, _, hk5, hp, hS5, hE5⟩, hB5⟩
        · go_simp
          refine hK.out _ _ (cell_alloc' y1d _) (fun hHeld => ?_)
          clear hK K
          refine wpAnyH_ready (rs := [4]) (by kernel_rfl) (by simp) ?_
          refine AllReadyH.cons (o := { dst := some 43, op := _, type := _, pos := _, after := _, guard := _ }) rfl (fun K hK => ?_) AllReadyH.nil
          go_simp
          refine hK.out _ _ (cell_alloc' y1d _) (fun hHeld => ?_)
          clear hK K
          refine wpAnyH_ready (rs := [13]) (by kernel_rfl) (by simp) ?_
          refine AllReadyH.cons (o := { dst := some 52, op := _, type := _, pos := _, after := _, guard := _ }) rfl (fun K hK => ?_) AllReadyH.nil
          refine mail_step base (by rfl) (.tmp 43) (.tmp 51) (by rfl) (.slice Am l.length cm) l ⟨nx, fl, tx⟩ (fun k => oki k ∨ k ≠ pb ∧ w1.drew.heap.size ≤ k) (by rfl) (by rfl) (fun k hk => .inr ⟨(by simp at hk; omega), hk⟩) hR1 (by simp; omega) (by omega) ?_
          intro v1 w5 hR5 hb5 hg5
          obtain ⟨A5, c5, h5⟩ := Kd.R_slice hR5
          rw [List.length_append] at h5
          subst h5
          have z1 := (hg5.cell_far ⟨g, i * 3 + 1, none⟩ (by simp; omega) hgo).trans y1d
          have z2 := (hg5.cell_far ⟨g, i * 3 + 2, none⟩ (by simp; omega) hgo).trans y2d
          have z3 : w5.frozen? ⟨g, i * 3 + 1, none⟩ = false := (hg5.frozen_far ⟨g, i * 3 + 1, none⟩ (by simp; omega) hgo).trans (by simpa using e1)
          have z4 : w5.frozen? ⟨g, i * 3 + 2, none⟩ = false := (hg5.frozen_far ⟨g, i * 3 + 2, none⟩ (by simp; omega) hgo).trans (by simpa using e2)
          refine hK.out _ _ z1 (fun hHeld => ?_)
          clear hK K
          refine wpAnyH_take (i := 14) (oi := { dst := some 53, op := _, type := _, pos := _, after := _, guard := _ }) (v := .pointer (some ⟨g, i * 3, none⟩)) rfl (by kernel_rfl) (by kernel_rfl) (by kernel_rfl) (fun _ _ _ h => h) (Or.inl ⟨by rfl, by (intro w hSw; (try dsimp only at hSw); first | (go_simp; done) | (go_simp; with_reducible rfl) | (go_simp; omega) | (go_simp; simp [*]; done))⟩) (by assumption) ?_; try simp only [Act.put, List.setIfInBounds_toArray, List.set_cons_zero, List.set_cons_succ]
          refine wpAnyH_take (i := 15) (oi := { dst := some 54, op := _, type := _, pos := _, after := _, guard := _ }) (v := .pointer (some ⟨g, i * 3 + 2, none⟩)) rfl (by kernel_rfl) (by kernel_rfl) (by kernel_rfl) (fun _ _ _ h => h) (Or.inl ⟨by rfl, by (intro w hSw; (try dsimp only at hSw); first | (go_simp; done) | (go_simp; with_reducible rfl) | (go_simp; omega) | (go_simp; simp [*]; done))⟩) (by assumption) ?_; try simp only [Act.put, List.setIfInBounds_toArray, List.set_cons_zero, List.set_cons_succ]
          refine wpAnyH_ready (rs := [16]) (by kernel_rfl) (by simp) ?_
          refine AllReadyH.cons (o := { dst := none, op := _, type := _, pos := _, after := _, guard := _ }) rfl (fun K hK => ?_) AllReadyH.nil
          go_simp
          have z5 : (w5.setCell ⟨g, i * 3 + 2, none⟩ (.slice A5 (l.length + 1) c5)).cell? ⟨g, i * 3 + 1, none⟩ = some (.int .i64 nx) := by
            rw [World.cell?_setCell_other _ _ _ _ (by simp)]; exact z1
          refine hK.out _ _ z5 (fun hHeld => ?_)
          clear hK K
          refine wpAnyH_done (by kernel_rfl) ?_ _
          have hH5 := Kd.H_grown hH1 hg5 (fun k hk => hR1.1 k hk)
          have hk5 := ((((hk.below hb1 hpb).drew).grown hg5 hpo).other (c := g) (j := i * 3 + 2) hng (.slice A5 (l.length + 1) c5)).other (c := g) (j := i * 3 + 1) hng (.int .i64 (nx + 1))
          have hS5 := box_back (box_hole1 (nx' := nx + 1) (box_hole2 (v1 := .slice A5 (l.length + 1) c5) hH5 hi rfl) hi) (Kd.R_far (p := ⟨g, i * 3 + 1, none⟩) (Kd.R_far (p := ⟨g, i * 3 + 2, none⟩) hR5 hng3 (.slice A5 (l.length + 1) c5)) hng3 (.int .i64 (nx + 1)))
          have hg6 : w5.heap[g]? = some (.cells cells 77 (0, 0)) := (hg5.block g (by simp; omega) hgo).trans ((hb1.block g hgl).trans hgc)
          have hE5 := Kd.R_mono (Kd.R_far (p := ⟨g, i * 3 + 1, none⟩) (Kd.R_far (p := ⟨g, i * 3 + 2, none⟩) (Kd.R_types (entries_over (Kd.R_drew (Kd.R_below hE hb1)) hR1 hg5) hg6 (by decide)) (fun k hk => hk.2) (.slice A5 (l.length + 1) c5)) (fun k hk => hk.2) (.int .i64 (nx + 1))) (fun k hk => hk.1)
          have hB5 := Below.setCell (p := ⟨g, i * 3 + 1, none⟩) (Below.setCell (p := ⟨g, i * 3 + 2, none⟩) (Below.trans (below_drew (hb1.mono hbase)) hb5) hgb (.slice A5 (l.length + 1) c5)) hgb (.int .i64 (nx + 1))
          have hw : IntKind.i64.wrap (nx + 1) = nx + 1 := by rw [IntKind.wrap_i64]; omega
          clear hH5 hH1 hH hR5 hR1 hR hE hS hC z1 z2 y1 y2 y1d y2d y2a e1 e2 x0 x1 x2 f1 f2 hg6
          go_wp2_with fail
          go_ret
          exact ⟨(by first | rfl | (simp; done) | (simp [*]; done) | (rw [if_pos (by omega)]; first | rfl | (simp; done)) | (rw [if_neg (by omega)]; first | rfl | (simp; done)) | (simp; omega)), ⟨_, _, hk5, hp, hS5, hE5⟩, hB5⟩
end Go.Proofs.YtijdghplfhfpaaaDoor.H
