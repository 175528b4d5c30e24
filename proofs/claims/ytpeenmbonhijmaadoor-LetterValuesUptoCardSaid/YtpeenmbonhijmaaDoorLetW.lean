/- Letters: values of a name: the reference's walks and the law's. -/
import Derived.Test.YtpeenmbonhijmaaDoorLetV
import Derived.Test.YtpeenmbonhijmaaDoorLetH
namespace Go.Proofs.YtpeenmbonhijmaaDoor.H
open Go.RowKit Go.Proofs.YtpeenmbonhijmaaDoorW.PrintWords Go.Proofs.YtpeenmbonhijmaaDoorW.PrintLast Go.Proofs.YtpeenmbonhijmaaDoorW.PrintMore Go.Proofs.YtpeenmbonhijmaaDoor.U
set_option linter.unusedVariables false
set_option linter.unusedSimpArgs false
theorem low_text (a b : ByteArray) : ((lowS a).toList == (lowS b).toList) = sameLow a b := rfl
set_option maxHeartbeats 1000000 in
set_option maxRecDepth 100000 in
theorem valuesOf_calls (A : Option Addr) (c : Nat) (l : List AField) (body n : ByteArray) (w : World) (hr : Kd.C kAField w A l.length l) (hll : l.length ≤ 1048576) (hs : ∀ x ∈ l, x.name.size ≤ 1048576 ∧ x.value.size ≤ 1048576) (hn : n.size ≤ 1048576) :
    Calls Tryd.prog 76 #[.agg #[.slice A l.length c, .string body], .string n] w fun e w' => ∃ v : Value, e = .returned v ∧ Kd.R Kd.string 9 w' w.heap.size (fun _ => True) v (valsOf n (fun f => sameLow f.name n) l) ∧ Below w.heap.size w w' := by
  have h63 := hr.2.1
  have HL := fun k (hk : k < l.length) w => lower_calls l[k].name w (by have := (hs _ (List.getElem_mem hk)).1; omega)
  have HN := fun w => lower_calls n w (by omega)
  have hsn := fun k hk => vals_snoc n (fun f => sameLow f.name n) l k hk
  have hsl := fun k => vals_len n (fun f => sameLow f.name n) l k
  have h0 : valsOf n (fun f => sameLow f.name n) (l.take 0) = [] := by rw [List.take_zero]; rfl
  generalize valsOf n (fun f => sameLow f.name n) = V at *
  unfold sameLow at hsn
  generalize lowS n = ln at *
  have HL := Lib.hid HL
  have HN := Lib.hid HN
  have hsn := Lib.hid hsn
  have hsl := Lib.hid hsl
  go_enter Tryd.func76, Tryd.ntmps76
  go_wp2
  go_loopw [5, 6] (fun v i wr => ∃ k : Nat, k ≤ l.length ∧ i = .int .i64 k ∧ Kd.R Kd.string 9 wr (w.heap.size + 1) (fun _ => True) v (V (l.take k)) ∧ Below (w.heap.size + 1) (w.alloc (.cells #[.slice A l.length c, .string body] 41)) wr) (fun _ i _ => l.length - (intOf i).toNat)
  case atStart => exact ⟨0, Nat.zero_le _, rfl, by rw [h0]; exact Kd.R_nil _ _ _ _ _, Below.refl _ _⟩
  case round =>
    obtain ⟨k, hk, rfl, hR, hB⟩ := hrel
    obtain ⟨hcb, hfb⟩ := bcellB hB
    have hBw : Below w.heap.size w wr := Below.trans (by repeat (first | exact Below.refl _ _ | apply below_alloc | apply pw_below_drewN | apply below_drew1 | (refine Below.setCell ?_ (by first | (simp; done) | (simp; omega) | omega) _) )) (Below.mono hB (by omega))
    have hzw : w.heap.size + 1 ≤ wr.heap.size := by have := hB.size; simp at this; omega
    have m0 : wr.cell? ⟨w.heap.size, 0, none⟩ = some (.slice A l.length c) := by rw [hcb _ _ (by omega)]; simp
    clear hcb hfb
    by_cases hlt : k < l.length
    · have hCk := fun (W : World) (h : Below w.heap.size w W) => flat_at (Kd.C_below hr h) k hlt
      obtain ⟨ad, e1, hx0, hxj⟩ := hCk wr hBw
      subst e1
      have hCk : ∀ (W : World), Below w.heap.size w W → W.cell? (ad.add (k * 2)) = some (.string l[k].name) ∧ W.cell? ⟨(ad.add (k * 2)).block, (ad.add (k * 2)).off + 1, none⟩ = some (.string l[k].value) := fun W h => by
        obtain ⟨ad', e1, hy0, hyj⟩ := hCk W h
        obtain rfl : ad = ad' := Option.some.inj e1
        exact ⟨hy0 _ rfl, hyj 1 _ (by decide) rfl⟩
      clear hx0 hxj
      have i0 : (0 : Int) ≤ (k : Int) := by omega
      have i1 : (k : Int) < (l.length : Int) := by omega
      have hLk := fun w => HL.out k hlt w
      have hnx := hsn.out k hlt
      have hlk := hsl.out k
      obtain ⟨q0, q1⟩ := hCk wr hBw
      generalize l[k] = x at *
      generalize V (l.take k) = acc at *
      generalize hV2 : V (l.take (k + 1)) = acc2 at *
      generalize lowS x.name = lx at *
      have hLk := Lib.hid hLk
      have hCk := Lib.hid hCk
      cases hiv : lx.toList == ln.toList with
      | true =>
        rw [hiv, if_pos rfl] at hnx
        subst hnx
        go_wp2_with fail
        refine (hLk.out _).mono ?_
        rintro e w2 ⟨rfl, hb2⟩
        have hz2 := hb2.size
        have n0 : w2.cell? ⟨w.heap.size, 0, none⟩ = some (.slice (some ad) l.length c) := (hb2.cell (p := ⟨w.heap.size, 0, none⟩) (by show w.heap.size < _; omega)).trans m0
        go_wp2_with fail
        refine (HN.out _).mono ?_
        rintro e w3 ⟨rfl, hb3⟩
        have hz3 := hb3.size
        have hBw3 : Below w.heap.size w w3 := hBw.trans ((hb2.mono (by omega)).trans (hb3.mono (by omega)))
        have hB3 : Below (w.heap.size + 1) (w.alloc (.cells #[.slice (some ad) l.length c, .string body] 41)) w3 := hB.trans ((hb2.mono (by omega)).trans (hb3.mono (by omega)))
        have o0 : w3.cell? ⟨w.heap.size, 0, none⟩ = some (.slice (some ad) l.length c) := (hb3.cell (p := ⟨w.heap.size, 0, none⟩) (by show w.heap.size < _; omega)).trans n0
        obtain ⟨p0, p1⟩ := hCk.out w3 hBw3
        have hR3 : Kd.R Kd.string 9 w3 (w.heap.size + 1) (fun _ => True) u5 acc := Kd.R_below hR (hb2.trans (hb3.mono (by omega)))
        go_wp2_with (at_builtin; refine snoc_list rowStr (w.heap.size + 1) rfl _ _ rfl u5 acc x.value [.string x.value] rfl rfl rfl hR3 (by omega) (by omega) ?_; intro v1 w4 hR4 hb4 hg4)
        go_roundw
        case rel => exact ⟨k + 1, by omega, by go_num, by rw [hV2]; exact hR4, hB3.trans hb4⟩
        case measure => simp [intOf]; omega
      | false =>
        rw [hiv, if_neg (by simp)] at hnx
        subst hnx
        go_wp2_with fail
        refine (hLk.out _).mono ?_
        rintro e w2 ⟨rfl, hb2⟩
        have hz2 := hb2.size
        go_wp2_with fail
        refine (HN.out _).mono ?_
        rintro e w3 ⟨rfl, hb3⟩
        have hB3 : Below (w.heap.size + 1) (w.alloc (.cells #[.slice (some ad) l.length c, .string body] 41)) w3 := hB.trans ((hb2.mono (by omega)).trans (hb3.mono (by omega)))
        have hR3 : Kd.R Kd.string 9 w3 (w.heap.size + 1) (fun _ => True) u5 acc2 := Kd.R_below hR (hb2.trans (hb3.mono (by omega)))
        go_wp2_with fail
        go_roundw
        case rel => exact ⟨k + 1, by omega, by go_num, by rw [hV2]; exact hR3, hB3⟩
        case measure => simp [intOf]; omega
    · obtain rfl : k = l.length := by omega
      rw [List.take_length] at hR
      go_wp2
      go_ret
      exact ⟨_, rfl, Kd.R_lower hR (by omega), (by repeat (first | exact Below.refl _ _ | apply below_alloc | apply pw_below_drewN | apply below_drew1 | (refine Below.setCell ?_ (by first | (simp; done) | (simp; omega) | omega) _) | exact hBw))⟩
end Go.Proofs.YtpeenmbonhijmaaDoor.H
