/- Lists of addresses: the reader's bare address: the walk. -/
import Derived.Test.YtijdghplfhfpaaaDoorListA
namespace Go.Proofs.YtijdghplfhfpaaaDoor.H
open Go.RowKit Go.Proofs.YtijdghplfhfpaaaDoorW.PrintWords Go.Proofs.YtijdghplfhfpaaaDoorW.PrintLast Go.Proofs.YtijdghplfhfpaaaDoorW.PrintMore Go.Proofs.YtijdghplfhfpaaaDoor.U
set_option linter.unusedVariables false
set_option linter.unusedSimpArgs false
def okAddr (a b : ByteArray) : Bool := decide (addrFault a b = 0)
/-- A method that hands back an address and ends at a place, or panics by who.must. -/
def PostB (w : World) (b : Nat) (s : ByteArray) (R : Option (AAddress × Nat)) (e : Ending) (w' : World) : Prop :=
  match R with
  | some (a, d) => e = .returned (.agg #[.string a.loc, .string a.dom]) ∧ Cur w' b s d ∧ w.grownBy w' (some b)
  | none => e = .panicked mustP ∧ w.grownBy w' (some b)
set_option maxHeartbeats 1000000 in
set_option maxRecDepth 100000 in
theorem rbare_calls (b : Nat) (s loc : ByteArray) (i : Nat) (m : Int) (w : World) (hc : Cur w b s i) (hi : i ≤ s.size) (hs : s.size ≤ 1048576) (hl : loc.size ≤ 1048576) (hm : w.cell? ⟨6, 0, none⟩ = some (.int .i64 m)) (hg : 6 < b) :
    Calls Tryd.prog 186 #[.pointer (some ⟨b, 0, none⟩), .string loc] w (PostB w b s (bareP okAddr s i loc)) := by
  generalize hR : bareP okAddr s i loc = R
  unfold bareP at hR
  have HN := Lib.hid (fun W hc => rnext_cur b s i W hc hi (by omega))
  have ltb := hc.lt
  have hgw : 6 < w.heap.size := by omega
  by_cases h1 : nx s i = 64
  · rw [if_pos h1] at hR
    have hlt := nx_lt (s := s) (i := i) (by rw [h1]; decide)
    have HRn := Lib.hid (fun W hc => rrun_calls b s (i + 1) W hc hlt (by omega))
    have hd := span_le runB s (i + 1) (by omega)
    rw [h1] at HN
    generalize spanEnd runB s (i + 1) = d at *
    have hz : (s.extract (i + 1) d).size ≤ 1048576 := by rw [ext_size hd]; omega
    have HC := fun W hm hg => check_calls loc (s.extract (i + 1) d) m W hl hz hm hg
    unfold okAddr at hR
    generalize addrFault loc (s.extract (i + 1) d) = f at *
    generalize s.extract (i + 1) d = dom at *
    have HC := Lib.hid HC
    go_enter Tryd.func186, Tryd.ntmps186
    go_wp2_with fail
    refine (HN.out _ (hc.alloc _)).mono ?_
    rintro e w2 ⟨rfl, hc2, hg2⟩
    have k2 := (Blk.made w #[.string ⟨#[]⟩, .string ⟨#[]⟩] 49).grown hg2 (by first | (simp; done) | (simp; omega) | omega)
    have m2 := grown_cell hg2 (cell_alloc hm hgw _) (by first | (simp; done) | (simp; omega) | omega) (by first | (simp; done) | (simp; omega) | omega)
    have z2 := hg2.size
    simp at z2
    go_wp2_with fail
    refine (must_yes _).mono ?_
    rintro e w2' ⟨rfl, rfl⟩
    have hc3 := hc2.setI ((i : Int) + 1) (i + 1) (by omega)
    have k3 := k2.other (c := b) (j := 1) (by omega) (.int .i64 ((i : Int) + 1))
    have m3 := cell_other (c := b) (j := 1) m2 (by omega) (.int .i64 ((i : Int) + 1))
    obtain ⟨c0, c1, f0, f1, lt2⟩ := hc2
    go_wp2_with fail
    refine (HRn.out _ hc3).mono ?_
    rintro e w3 ⟨rfl, hc4, hg4⟩
    have k4 := k3.grown hg4 (by first | (simp; done) | (simp; omega) | omega)
    have m4 := grown_cell hg4 m3 (by first | (simp; done) | (simp; omega) | omega) (by first | (simp; done) | (simp; omega) | omega)
    have z4 := hg4.size
    simp at z4
    go_wp2_with fail
    refine (HC.out _ (cell_alloc m4 (by omega) _) (by first | (simp; done) | (simp; omega) | omega)).mono ?_
    rintro e w5 ⟨rfl, hb5⟩
    have k5 := (k4.alloc (.cells #[.string loc, .string dom] 49)).below hb5 (by first | (simp; done) | (simp; omega) | omega)
    have l5 := (Blk.made w3 #[.string loc, .string dom] 49).below hb5 (by simp)
    have hc5 := (hc4.alloc (.cells #[.string loc, .string dom] 49)).below hb5 (by first | (simp; done) | (simp; omega) | omega)
    have z5 := hb5.size
    simp at z5
    have gg : w.grownBy w5 (some b) := grown_more (w1 := w3.alloc (.cells #[.string loc, .string dom] 49)) (grown_alloc (grown_trans (grown_set (grown_trans (grown_alloc (World.grownBy.refl _ _) _) hg2) _ _) hg4) _) hb5 (by first | (simp; done) | (simp; omega) | omega)
    have q0 := k5.at 0 _ rfl
    have q1 := k5.at 1 _ rfl
    have p0 := k5.free 0 _ rfl
    have p1 := k5.free 1 _ rfl
    have r0 := l5.at 0 _ rfl
    have r1 := l5.at 1 _ rfl
    by_cases hf : f = 0
    · subst hf
      simp at hR
      subst hR
      go_wp2_with fail
      refine (must_yes _).mono ?_
      rintro e w2' ⟨rfl, rfl⟩
      go_wp2_with fail
      refine bodyPost_ret (v := .agg #[.string loc, .string dom]) (by simp [results, Tryd.results186, go_sem, *]) rfl ?_
      exact ⟨rfl, ((hc5.other (by first | (simp; done) | (simp; omega) | omega) _).other (by first | (simp; done) | (simp; omega) | omega) _), (by repeat (first | exact World.grownBy.refl _ _ | apply grown_drawN | apply grown_drew | apply grown_set | apply grown_alloc | (refine grown_new ?_ (by first | (simp; done) | (simp; omega) | omega) _ _) | exact gg))⟩
    · simp [hf] at hR
      subst hR
      have e1 : (f == 0) = false := by rw [beq_eq_false_iff_ne]; exact hf
      go_wp2_with fail
      refine (must_no _).mono ?_
      rintro e w2' ⟨rfl, rfl⟩
      go_wp2_with fail
      exact ⟨rfl, rfl, gg⟩
  · rw [if_neg h1] at hR
    subst hR
    have e1 : (nx s i == 64) = false := by rw [beq_eq_false_iff_ne]; exact h1
    clear h1
    generalize nx s i = x at *
    go_enter Tryd.func186, Tryd.ntmps186
    go_wp2_with fail
    refine (HN.out _ (hc.alloc _)).mono ?_
    rintro e w2 ⟨rfl, hc2, hg2⟩
    go_wp2_with fail
    refine (must_no _).mono ?_
    rintro e w2' ⟨rfl, rfl⟩
    go_wp2_with fail
    exact ⟨rfl, rfl, grown_trans (grown_alloc (World.grownBy.refl _ _) _) hg2⟩
end Go.Proofs.YtijdghplfhfpaaaDoor.H
