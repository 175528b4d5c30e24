/- Lists of addresses: the reference's plainAt, addressAt: the walks. -/
import Derived.Test.YtijdghplfhfpaaaDoorListE
import Derived.Test.YtijdghplfhfpaaaDoorListB
namespace Go.Proofs.YtijdghplfhfpaaaDoor.H
open Go.RowKit Go.Proofs.YtijdghplfhfpaaaDoorW.PrintWords Go.Proofs.YtijdghplfhfpaaaDoorW.PrintLast Go.Proofs.YtijdghplfhfpaaaDoorW.PrintMore Go.Proofs.YtijdghplfhfpaaaDoor.U
set_option linter.unusedVariables false
set_option linter.unusedSimpArgs false
/-- An address without words, and how many bits that are. -/
def PostPlain (w : World) (R : Option (AAddress × List ABit)) (e : Ending) (w' : World) : Prop :=
  match R with
  | some (a, _) => e = .returned (.tuple #[.agg #[.string a.loc, .string a.dom], .int .i64 3]) ∧ Below w.heap.size w w'
  | none => e = .returned (.tuple #[.agg #[.string ⟨#[]⟩, .string ⟨#[]⟩], .int .i64 0]) ∧ Below w.heap.size w w'
theorem plain_short (ok : ByteArray → ByteArray → Bool) (l : List ABit) (i : Nat) (h : l.length ≤ i + 2) : plainR ok (l.drop i) = none := by
  have : (l.drop i).length ≤ 2 := by rw [List.length_drop]; omega
  match hd : l.drop i with
  | [] => rfl
  | [_] => rfl
  | [_, _] => rfl
  | _ :: _ :: _ :: _ => rw [hd] at this; simp at this
theorem drop3 (l : List ABit) (i : Nat) (h : i + 2 < l.length) : l.drop i = l[i] :: l[i + 1] :: l[i + 2] :: l.drop (i + 3) := by
  rw [List.drop_eq_getElem_cons (by omega : i < l.length), List.drop_eq_getElem_cons (by omega : i + 1 < l.length), List.drop_eq_getElem_cons h]
set_option maxHeartbeats 1000000 in
set_option maxRecDepth 100000 in
theorem plainAt_calls (A : Option Addr) (c : Nat) (l : List ABit) (i : Nat) (w : World) (hr : Kd.C kABit w A l.length l) (hi : i ≤ l.length) (hl : l.length ≤ 1048577) (hs : ∀ b ∈ l, b.text.size ≤ 1048576) :
    Calls Tryd.prog 190 #[.slice A l.length c, .int .i64 i] w (PostPlain w (plainR okAddr (l.drop i))) := by
  by_cases h2 : i + 2 < l.length
  · rw [drop3 l i h2]
    have hrA := Kd.C_alloc hr (.cells #[.string ⟨#[]⟩, .string ⟨#[]⟩] 49)
    obtain ⟨ad, e1, x0, xj⟩ := flat_at hrA i (by omega)
    obtain ⟨ad', e2, y0, yj⟩ := flat_at hrA (i + 1) (by omega)
    obtain ⟨ad'', e3, z0, zj⟩ := flat_at hrA (i + 2) h2
    subst e1
    obtain rfl := Option.some.inj e2
    obtain rfl := Option.some.inj e3
    have p0 := x0 _ rfl; have p1 := xj 1 _ (by decide) rfl
    have q0 := y0 _ rfl; have q1 := yj 1 _ (by decide) rfl; have q2 := yj 2 _ (by decide) rfl; have q3 := yj 3 _ (by decide) rfl
    have r0 := z0 _ rfl; have r1 := zj 1 _ (by decide) rfl; have r2 := zj 2 _ (by decide) rfl; have r3 := zj 3 _ (by decide) rfl
    clear x0 xj y0 yj z0 zj
    have s0 := hs _ (List.getElem_mem (by omega : i < l.length))
    have s2 := hs _ (List.getElem_mem h2)
    generalize l[i] = b0 at *
    generalize l[i + 1] = b1 at *
    generalize l[i + 2] = b2 at *
    obtain ⟨t0, u0, v0, a0⟩ := b0
    obtain ⟨t1, u1, v1, a1⟩ := b1
    obtain ⟨t2, u2, v2, a2⟩ := b2
    simp only at p0 p1 q0 q1 q2 q3 r0 r1 r2 r3 s0 s2
    have i0 : (0 : Int) ≤ (i : Int) := by omega
    have i1 : (i : Int) < (l.length : Int) := by omega
    have i2 : (i : Int) + 1 < (l.length : Int) := by omega
    have i3 : (i : Int) + 2 < (l.length : Int) := by omega
    have HC := fun w => addressFault_calls t0 t2 w s0 s2
    simp only [plainR]
    generalize hP : (if u0 = true ∧ t1 = ⟨#[64]⟩ ∧ u2 = true ∧ a1 = false ∧ a2 = false ∧ okAddr t0 t2 = true then some ((⟨t0, t2⟩ : AAddress), l.drop (i + 3)) else none) = P
    unfold okAddr at hP
    generalize addrFault t0 t2 = f at *
    have HC := Lib.hid HC
    have hP := Lib.hid hP
    clear hr hrA hs hi
    cases u0 with
    | false =>
      obtain rfl : none = P := by simpa using hP.out
      clear hP
      go_enter Tryd.func190, Tryd.ntmps190
      go_wp2
      refine bodyPost_ret (v := .tuple #[.agg #[.string ⟨#[]⟩, .string ⟨#[]⟩], .int .i64 0]) (by simp [results, Tryd.results190, go_sem, *]) rfl ?_
      exact ⟨rfl, (by repeat (first | exact Below.refl _ _ | apply below_alloc | apply pw_below_drewN | apply below_drew1 | (refine Below.setCell ?_ (by first | (simp; done) | (simp; omega) | omega) _) ))⟩
    | true =>
      by_cases ht : t1 = ⟨#[64]⟩
      · have e1 := lit_yes (l := [64]) ht
        cases u2 with
        | false =>
          obtain rfl : none = P := by simpa using hP.out
          clear hP ht
          go_enter Tryd.func190, Tryd.ntmps190
          go_wp2
          refine bodyPost_ret (v := .tuple #[.agg #[.string ⟨#[]⟩, .string ⟨#[]⟩], .int .i64 0]) (by simp [results, Tryd.results190, go_sem, *]) rfl ?_
          exact ⟨rfl, (by repeat (first | exact Below.refl _ _ | apply below_alloc | apply pw_below_drewN | apply below_drew1 | (refine Below.setCell ?_ (by first | (simp; done) | (simp; omega) | omega) _) ))⟩
        | true =>
          cases a1 with
          | true =>
            obtain rfl : none = P := by simpa using hP.out
            clear hP ht
            go_enter Tryd.func190, Tryd.ntmps190
            go_wp2
            refine bodyPost_ret (v := .tuple #[.agg #[.string ⟨#[]⟩, .string ⟨#[]⟩], .int .i64 0]) (by simp [results, Tryd.results190, go_sem, *]) rfl ?_
            exact ⟨rfl, (by repeat (first | exact Below.refl _ _ | apply below_alloc | apply pw_below_drewN | apply below_drew1 | (refine Below.setCell ?_ (by first | (simp; done) | (simp; omega) | omega) _) ))⟩
          | false =>
            cases a2 with
            | true =>
              obtain rfl : none = P := by simpa using hP.out
              clear hP ht
              go_enter Tryd.func190, Tryd.ntmps190
              go_wp2
              refine bodyPost_ret (v := .tuple #[.agg #[.string ⟨#[]⟩, .string ⟨#[]⟩], .int .i64 0]) (by simp [results, Tryd.results190, go_sem, *]) rfl ?_
              exact ⟨rfl, (by repeat (first | exact Below.refl _ _ | apply below_alloc | apply pw_below_drewN | apply below_drew1 | (refine Below.setCell ?_ (by first | (simp; done) | (simp; omega) | omega) _) ))⟩
            | false =>
              by_cases hf : f = 0
              · obtain rfl : some ((⟨t0, t2⟩ : AAddress), l.drop (i + 3)) = P := by simpa [ht, hf] using hP.out
                clear hP ht
                subst hf
                go_enter Tryd.func190, Tryd.ntmps190
                go_wp2_with fail
                have hw1 : IntKind.i64.wrap ((i : Int) + 2) = (i : Int) + 2 := by rw [IntKind.wrap_i64]; omega
                have hw2 : (0 : Int) ≤ (i : Int) + 2 := by omega
                have hw3 : ((i : Int) + 2).toNat = i + 2 := by omega
                go_region_held3 (fun w' => w'.cell? (ad.add (i * 4)) = some (.string t0) ∧ w'.cell? (ad.add ((i + 2) * 4)) = some (.string t2))
                  (first | exact ⟨cell_drew' p0, cell_drew' r0⟩ | exact ⟨cell_alloc' (cell_drew' p0) _, cell_alloc' (cell_drew' r0) _⟩ | go_keep) (fail)
                clear hw1 hw2 hw3
                go_wp2_with fail
                refine (HC.out _).mono ?_
                rintro e w1 ⟨rfl, hb1⟩
                obtain ⟨hc_w1, hf_w1⟩ := bcell hb1
                have s_ := hb1.size
                (try simp at s_)
                (first | (have : w.heap.size < w1.heap.size := by omega) | skip)
                have : w.heap.size ≤ w1.heap.size := by omega
                clear s_
                have : w1.cell? ⟨w.heap.size, 0, none⟩ = some (.string ⟨#[]⟩) := (by rw [hc_w1 _ _ (by first | (simp; done) | (simp; omega))]; first | (simp; done) | (simp [*]; done) | assumption | (simp [go_sem, *]; done)); have : w1.frozen? ⟨w.heap.size, 0, none⟩ = false := (by rw [hf_w1 _ _ (by first | (simp; done) | (simp; omega))]; first | (simp; done) | (simp [*]; done) | assumption | (simp [go_sem, *]; done)); have : w1.cell? ⟨w.heap.size, 1, none⟩ = some (.string ⟨#[]⟩) := (by rw [hc_w1 _ _ (by first | (simp; done) | (simp; omega))]; first | (simp; done) | (simp [*]; done) | assumption | (simp [go_sem, *]; done)); have : w1.frozen? ⟨w.heap.size, 1, none⟩ = false := (by rw [hf_w1 _ _ (by first | (simp; done) | (simp; omega))]; first | (simp; done) | (simp [*]; done) | assumption | (simp [go_sem, *]; done))
                have : w1.cell? ⟨w.heap.size + 1, 0, none⟩ = some (.string t0) := (by rw [hc_w1 _ _ (by first | (simp; done) | (simp; omega))]; first | (simp; done) | (simp [*]; done) | assumption | (simp [go_sem, *]; done)); have : w1.frozen? ⟨w.heap.size + 1, 0, none⟩ = false := (by rw [hf_w1 _ _ (by first | (simp; done) | (simp; omega))]; first | (simp; done) | (simp [*]; done) | assumption | (simp [go_sem, *]; done)); have : w1.cell? ⟨w.heap.size + 1, 1, none⟩ = some (.string t2) := (by rw [hc_w1 _ _ (by first | (simp; done) | (simp; omega))]; first | (simp; done) | (simp [*]; done) | assumption | (simp [go_sem, *]; done)); have : w1.frozen? ⟨w.heap.size + 1, 1, none⟩ = false := (by rw [hf_w1 _ _ (by first | (simp; done) | (simp; omega))]; first | (simp; done) | (simp [*]; done) | assumption | (simp [go_sem, *]; done))
                clear hc_w1 hf_w1
                go_wp2_with fail
                refine bodyPost_ret (v := .tuple #[.agg #[.string t0, .string t2], .int .i64 3]) (by simp [results, Tryd.results190, go_sem, *]) rfl ?_
                exact ⟨rfl, (by repeat (first | exact Below.refl _ _ | apply below_alloc | apply pw_below_drewN | apply below_drew1 | (refine Below.setCell ?_ (by first | (simp; done) | (simp; omega) | omega) _) | (refine below_then ?_ (by first | (simp; done) | (simp; omega) | omega) hb1)))⟩
              · obtain rfl : none = P := by simpa [hf] using hP.out
                have e2 : (f != 0) = true := by rw [bne_iff_ne]; exact hf
                clear hP ht
                go_enter Tryd.func190, Tryd.ntmps190
                go_wp2_with fail
                have hw1 : IntKind.i64.wrap ((i : Int) + 2) = (i : Int) + 2 := by rw [IntKind.wrap_i64]; omega
                have hw2 : (0 : Int) ≤ (i : Int) + 2 := by omega
                have hw3 : ((i : Int) + 2).toNat = i + 2 := by omega
                go_region_held3 (fun w' => w'.cell? (ad.add (i * 4)) = some (.string t0) ∧ w'.cell? (ad.add ((i + 2) * 4)) = some (.string t2))
                  (first | exact ⟨cell_drew' p0, cell_drew' r0⟩ | exact ⟨cell_alloc' (cell_drew' p0) _, cell_alloc' (cell_drew' r0) _⟩ | go_keep) (fail)
                clear hw1 hw2 hw3
                go_wp2_with fail
                refine (HC.out _).mono ?_
                rintro e w1 ⟨rfl, hb1⟩
                obtain ⟨hc_w1, hf_w1⟩ := bcell hb1
                have s_ := hb1.size
                (try simp at s_)
                (first | (have : w.heap.size < w1.heap.size := by omega) | skip)
                have : w.heap.size ≤ w1.heap.size := by omega
                clear s_
                have : w1.cell? ⟨w.heap.size, 0, none⟩ = some (.string ⟨#[]⟩) := (by rw [hc_w1 _ _ (by first | (simp; done) | (simp; omega))]; first | (simp; done) | (simp [*]; done) | assumption | (simp [go_sem, *]; done)); have : w1.frozen? ⟨w.heap.size, 0, none⟩ = false := (by rw [hf_w1 _ _ (by first | (simp; done) | (simp; omega))]; first | (simp; done) | (simp [*]; done) | assumption | (simp [go_sem, *]; done)); have : w1.cell? ⟨w.heap.size, 1, none⟩ = some (.string ⟨#[]⟩) := (by rw [hc_w1 _ _ (by first | (simp; done) | (simp; omega))]; first | (simp; done) | (simp [*]; done) | assumption | (simp [go_sem, *]; done)); have : w1.frozen? ⟨w.heap.size, 1, none⟩ = false := (by rw [hf_w1 _ _ (by first | (simp; done) | (simp; omega))]; first | (simp; done) | (simp [*]; done) | assumption | (simp [go_sem, *]; done))
                have : w1.cell? ⟨w.heap.size + 1, 0, none⟩ = some (.string t0) := (by rw [hc_w1 _ _ (by first | (simp; done) | (simp; omega))]; first | (simp; done) | (simp [*]; done) | assumption | (simp [go_sem, *]; done)); have : w1.frozen? ⟨w.heap.size + 1, 0, none⟩ = false := (by rw [hf_w1 _ _ (by first | (simp; done) | (simp; omega))]; first | (simp; done) | (simp [*]; done) | assumption | (simp [go_sem, *]; done)); have : w1.cell? ⟨w.heap.size + 1, 1, none⟩ = some (.string t2) := (by rw [hc_w1 _ _ (by first | (simp; done) | (simp; omega))]; first | (simp; done) | (simp [*]; done) | assumption | (simp [go_sem, *]; done)); have : w1.frozen? ⟨w.heap.size + 1, 1, none⟩ = false := (by rw [hf_w1 _ _ (by first | (simp; done) | (simp; omega))]; first | (simp; done) | (simp [*]; done) | assumption | (simp [go_sem, *]; done))
                clear hc_w1 hf_w1
                go_wp2_with fail
                refine bodyPost_ret (v := .tuple #[.agg #[.string ⟨#[]⟩, .string ⟨#[]⟩], .int .i64 0]) (by simp [results, Tryd.results190, go_sem, *]) rfl ?_
                exact ⟨rfl, (by repeat (first | exact Below.refl _ _ | apply below_alloc | apply pw_below_drewN | apply below_drew1 | (refine Below.setCell ?_ (by first | (simp; done) | (simp; omega) | omega) _) | (refine below_then ?_ (by first | (simp; done) | (simp; omega) | omega) hb1)))⟩
      · have e1 := lit_no (l := [64]) ht
        obtain rfl : none = P := by simpa [ht] using hP.out
        clear hP ht
        go_enter Tryd.func190, Tryd.ntmps190
        go_wp2
        refine bodyPost_ret (v := .tuple #[.agg #[.string ⟨#[]⟩, .string ⟨#[]⟩], .int .i64 0]) (by simp [results, Tryd.results190, go_sem, *]) rfl ?_
        exact ⟨rfl, (by repeat (first | exact Below.refl _ _ | apply below_alloc | apply pw_below_drewN | apply below_drew1 | (refine Below.setCell ?_ (by first | (simp; done) | (simp; omega) | omega) _) ))⟩
  · rw [plain_short _ l i (by omega)]
    have i3 : (l.length : Int) ≤ (i : Int) + 2 := by omega
    go_enter Tryd.func190, Tryd.ntmps190
    go_wp2
    refine bodyPost_ret (v := .tuple #[.agg #[.string ⟨#[]⟩, .string ⟨#[]⟩], .int .i64 0]) (by simp [results, Tryd.results190, go_sem, *]) rfl ?_
    exact ⟨rfl, (by repeat (first | exact Below.refl _ _ | apply below_alloc | apply pw_below_drewN | apply below_drew1 | (refine Below.setCell ?_ (by first | (simp; done) | (simp; omega) | omega) _) ))⟩
end Go.Proofs.YtijdghplfhfpaaaDoor.H
