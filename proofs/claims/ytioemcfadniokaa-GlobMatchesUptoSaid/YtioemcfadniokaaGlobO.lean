/- Patterns: the walk of the reference's fits. -/
import Derived.Test.YtioemcfadniokaaGlobN
import Derived.Deep.OwnRows
namespace Go.Proofs.Ytioemcfadniokaa.H
open Go.RowKit Go.Proofs.YtioemcfadniokaaW.PrintWords Go.Proofs.YtioemcfadniokaaW.PrintLast Go.Proofs.YtioemcfadniokaaW.PrintMore Go.Proofs.Ytioemcfadniokaa.U
set_option linter.unusedVariables false
set_option linter.unusedSimpArgs false
noncomputable def rowV (pre : List Pc) (s : List Int) (j : Nat) : Bool := fitsV pre (s.take j)
theorem fitsV_iff {l : List Pc} {s : List Int} : fitsV l s = true ↔ M l s := by rw [fitsV]; simp
theorem rowV_many {pre : List Pc} {p : Pc} (hp : p.many = true) {s : List Int} {i : Nat} (hi : i < s.length) : rowV (pre ++ [p]) s (i + 1) = (rowV pre s (i + 1) || rowV (pre ++ [p]) s i) := by
  rw [Bool.eq_iff_iff, Bool.or_eq_true, rowV, rowV, rowV, fitsV_iff, fitsV_iff, fitsV_iff]
  exact M_row_many hp hi
theorem rowV_many0 {pre : List Pc} {p : Pc} (hp : p.many = true) {s : List Int} : rowV (pre ++ [p]) s 0 = rowV pre s 0 := by
  rw [Bool.eq_iff_iff, rowV, rowV, fitsV_iff, fitsV_iff]
  exact M_row_many0 hp
theorem rowV_one {pre : List Pc} {p : Pc} (hp : p.many = false) {s : List Int} {i : Nat} (hi : i < s.length) : rowV (pre ++ [p]) s (i + 1) = (rowV pre s i && (p.one || p.c == s[i])) := by
  rw [Bool.eq_iff_iff, Bool.and_eq_true, Bool.or_eq_true, rowV, rowV, fitsV_iff, fitsV_iff, beq_iff_eq]
  exact M_row_one hp hi
theorem rowV_one0 {pre : List Pc} {p : Pc} (hp : p.many = false) {s : List Int} : rowV (pre ++ [p]) s 0 = false := by
  rw [Bool.eq_false_iff, rowV, ne_eq, fitsV_iff]
  exact M_row_one0 hp
theorem rowV_nil {s : List Int} {j : Nat} (hj : j ≤ s.length) : rowV [] s j = decide (j = 0) := by
  rw [Bool.eq_iff_iff, rowV, fitsV_iff, decide_eq_true_eq]
  constructor
  · intro h
    have h2 : s.take j = [] := h
    have := congrArg List.length h2
    rw [List.length_take, List.length_nil] at this
    omega
  · rintro rfl; rfl
theorem infoBool : (Try.prog.info? 4).map (fun i => (i.zero, i.size, i.bytes)) = some (some (.bool false), 1, 1) := by kernel_rfl
theorem make_row (n : Nat) (hn : n ≤ 1048576) (W : World) : (Instr.makeSlice 94 (.int .i64 ((n : Int) + 1)) (.int .i64 ((n : Int) + 1))).run Try.prog W = .ok (.slice (some ⟨W.heap.size, 0, none⟩) (n + 1) (n + 1)) (W.alloc (.cells (madeCells #[.bool false] (n + 1)) 4)) := by
  have := run_make_row' (P := Try.prog) 94 4 (.bool false) 1 Try.underlying94 infoBool rfl .i64 .i64 (n + 1) (by omega) (by omega) W
  push_cast at this
  exact this
theorem made_cell (W : World) (n j : Nat) (hj : j < n) (t : TypeId) : (W.alloc (.cells (madeCells #[.bool false] n) t)).cell? ⟨W.heap.size, j, none⟩ = some (.bool false) := by
  have h : (W.alloc (.cells (madeCells #[.bool false] n) t)).heap[W.heap.size]? = some (.cells (madeCells #[.bool false] n) t) := by
    rw [← World.alloc_eq]
    simp
  unfold World.cell?
  rw [h]
  simp [madeCells, hj, Nat.mod_one]
theorem made_free (W : World) (n j : Nat) (t : TypeId) : (W.alloc (.cells (madeCells #[.bool false] n) t)).frozen? ⟨W.heap.size, j, none⟩ = false := by
  have h : (W.alloc (.cells (madeCells #[.bool false] n) t)).heap[W.heap.size]? = some (.cells (madeCells #[.bool false] n) t) := by
    rw [← World.alloc_eq]
    simp
  unfold World.frozen?
  rw [h]
  simp
def fcell (W : World) (b : Nat) (n : Nat) (f : Nat → Bool) : Prop := ∀ j, j ≤ n → W.cell? ⟨b, j, none⟩ = some (.bool (f j))
def ffree (W : World) (b : Nat) (n : Nat) : Prop := ∀ j, j ≤ n → W.frozen? ⟨b, j, none⟩ = false
theorem first_cell (W : World) (n j : Nat) (hj : j < n) (t : TypeId) : (W.alloc (.cells ((madeCells #[.bool false] n).setIfInBounds 0 (.bool true)) t)).cell? ⟨W.heap.size, j, none⟩ = some (.bool (decide (j = 0))) := by
  have h : (W.alloc (.cells ((madeCells #[.bool false] n).setIfInBounds 0 (.bool true)) t)).heap[W.heap.size]? = some (.cells ((madeCells #[.bool false] n).setIfInBounds 0 (.bool true)) t) := by
    rw [← World.alloc_eq]
    simp
  unfold World.cell?
  rw [h]
  by_cases h0 : j = 0
  · subst h0; simp [madeCells, hj]
  · have hne : 0 ≠ j := fun e => h0 e.symm
    show ((madeCells #[.bool false] n).setIfInBounds 0 (.bool true))[j]? = _
    rw [Array.getElem?_setIfInBounds_ne hne]
    simp [madeCells, hj, Nat.mod_one, h0]
theorem fcell_set {W : World} {b b2 n i : Nat} {f : Nat → Bool} (h : fcell W b n f) (hb : b ≠ b2) (v : Bool) : fcell (W.setCell ⟨b2, i, none⟩ (.bool v)) b n f := fun j hj => by
  rw [World.cell?_setCell_other _ _ _ _ (by intro e; injection e with e1; exact hb e1.symm)]
  exact h j hj
theorem fcell_put {W : World} {b n i : Nat} {f g : Nat → Bool} (h : fcell W b n f) (hi : i ≤ n) (v : Bool) (hg : ∀ j, j ≤ n → g j = if j = i then v else f j) : fcell (W.setCell ⟨b, i, none⟩ (.bool v)) b n g := fun j hj => by
  rw [hg j hj]
  by_cases hji : j = i
  · subst hji
    rw [if_pos rfl]
    exact World.cell?_setCell_same' _ _ _ (by rw [h j hj]; rfl)
  · rw [if_neg hji, World.cell?_setCell_other _ _ _ _ (by intro e; injection e with _ e1; exact hji e1.symm)]
    exact h j hj
theorem ffree_set {W : World} {b n : Nat} (h : ffree W b n) (a : Addr) (v : Value) : ffree (W.setCell a v) b n := fun j hj => by
  rw [World.frozen?_setCell]; exact h j hj
def part (f : Nat → Bool) (i j : Nat) : Bool := if j < i then f j else false
theorem part_zero (f : Nat → Bool) (j : Nat) : part f 0 j = false := if_neg (Nat.not_lt_zero _)
theorem part_lt {f : Nat → Bool} {i j : Nat} (h : j < i) : part f i j = f j := if_pos h
theorem part_ge {f : Nat → Bool} {i j : Nat} (h : i ≤ j) : part f i j = false := if_neg (by omega)
theorem part_next (f : Nat → Bool) (i j : Nat) : part f (i + 1) j = if j = i then f i else part f i j := by
  unfold part
  by_cases h : j = i
  · subst h; rw [if_pos (by omega), if_pos rfl]
  · rw [if_neg h]
    by_cases h2 : j < i
    · rw [if_pos h2, if_pos (by omega)]
    · rw [if_neg h2, if_neg (by omega)]
set_option maxHeartbeats 1000000 in
set_option maxRecDepth 100000 in
theorem fits_calls (s p : ByteArray) (w : World) (hs : s.size ≤ 1048575) (hp : p.size ≤ 1048576) :
    Calls Try.prog 63 #[.string s, .string p] w fun e w' => e = .returned (.bool (fitsV (piecesOf (bytesOf p)) (bytesOf s))) ∧ Below w.heap.size w w' := by
  have hls := bytesOf_length s
  have hlp := bytesOf_length p
  have hmk := fun W => make_row s.size (by omega) W
  have hmc := fun W j hj => made_cell W (s.size + 1) j hj 4
  have hmf := fun W j => made_free W (s.size + 1) j 4
  have hfc := fun W j hj => first_cell W (s.size + 1) j hj 4
  have hmc := Lib.hid hmc
  have hmf := Lib.hid hmf
  have hfc := Lib.hid hfc
  go_enter Try.func63, Try.ntmps63
  have z0 := hmc.out w 0 (by omega)
  have zf := hmf.out w 0
  go_wp2
  clear z0 zf
  go_loopw [5, 6] (fun vn vk wr => ∃ (k b : Nat) (pre : List Pc), k ≤ p.size ∧ vk = .int .i64 k ∧ vn = .slice (some ⟨b, 0, none⟩) (s.size + 1) (s.size + 1) ∧ w.heap.size ≤ b ∧ b < wr.heap.size ∧ Hid (fcell wr b s.size (rowV pre (bytesOf s))) ∧ Hid (piecesOf (bytesOf p) = pre ++ piecesOf ((bytesOf p).drop k)) ∧ Below w.heap.size w wr) (fun _ vk _ => p.size - (intOf vk).toNat)
  case atStart => exact ⟨0, w.heap.size, [], Nat.zero_le _, rfl, rfl, Nat.le_refl _, by simp, Lib.hid (fun j hj => by rw [rowV_nil (by rw [hls]; exact hj)]; exact hfc.out w j (by omega)), Lib.hid (by simp), (by repeat (first | exact Below.refl _ _ | apply below_alloc | apply pw_below_drewN | apply below_drew1 | (refine Below.setCell ?_ (by first | (simp; done) | (simp; omega) | omega) _) ))⟩
  case round =>
    obtain ⟨k, b, pre, hk, rfl, rfl, hb0, hb1, hcell, hpre, hBw⟩ := hrel
    by_cases hlt : k < p.size
    · have c0 := p[k].toNat_lt
      obtain ⟨hk', hpk⟩ := bytes_at p k hlt
      by_cases hesc : p[k].toNat = 92 ∧ k + 1 < p.size
      · obtain ⟨h92, hk1⟩ := hesc
        obtain ⟨hk1', hpk1⟩ := bytes_at p (k + 1) hk1
        have c1 := p[k + 1].toNat_lt
        have i1 : (k : Int) + 1 < p.size := by omega
        have hnext := Lib.hid (show piecesOf (bytesOf p) = (pre ++ [(⟨(p[k + 1].toNat : Int), false, false⟩ : Pc)]) ++ piecesOf ((bytesOf p).drop (k + 2)) by
          rw [hpre.out, pieces_esc (by omega) (by rw [hpk]; omega), hpk1]; simp)
        clear hpk hpk1 hk' hk1'
        have hc92 : ((p[k].toNat : Int) == 92) = true := by rw [h92]; rfl
        have hx1 := Lib.hid hls
        have hx2 := Lib.hid hlp
        clear hls hlp hpre
        go_wp2
        have f1 : fcell (wr.alloc (.cells (madeCells #[.bool false] (s.size + 1)) 4)) b s.size (rowV pre (bytesOf s)) := fun j hj => by rw [← hcell.out j hj]; exact (Below.alloc (Below.refl wr.heap.size wr) (Nat.le_refl _) _).cell (p := ⟨b, j, none⟩) hb1
        have f2 : fcell (wr.alloc (.cells (madeCells #[.bool false] (s.size + 1)) 4)) wr.heap.size s.size (part (rowV (pre ++ [(⟨(p[k + 1].toNat : Int), false, false⟩ : Pc)]) (bytesOf s)) 0) := fun j hj => by rw [part_zero]; exact hmc.out _ _ (by omega)
        have f3 : ffree (wr.alloc (.cells (madeCells #[.bool false] (s.size + 1)) 4)) wr.heap.size s.size := fun j hj => hmf.out _ _
        have f4 : wr.heap.size < (wr.alloc (.cells (madeCells #[.bool false] (s.size + 1)) 4)).heap.size := by simp
        have f5 : Below w.heap.size w (wr.alloc (.cells (madeCells #[.bool false] (s.size + 1)) 4)) := (by repeat (first | exact Below.refl _ _ | apply below_alloc | apply pw_below_drewN | apply below_drew1 | (refine Below.setCell ?_ (by first | (simp; done) | (simp; omega) | omega) _) | exact hBw))
        have hwb : w.heap.size ≤ wr.heap.size := hBw.size
        clear hcell hBw
        generalize wr.alloc (.cells (madeCells #[.bool false] (s.size + 1)) 4) = W0 at *
        generalize wr.heap.size = b2 at *
        have f1 := Lib.hid f1
        have f2 := Lib.hid f2
        have f3 := Lib.hid f3
        go_loopw [11] (fun vi wr2 => ∃ i : Nat, i ≤ s.size + 1 ∧ vi = .int .i64 i ∧ Hid (fcell wr2 b s.size (rowV pre (bytesOf s))) ∧ Hid (fcell wr2 b2 s.size (part (rowV (pre ++ [(⟨(p[k + 1].toNat : Int), false, false⟩ : Pc)]) (bytesOf s)) i)) ∧ Hid (ffree wr2 b2 s.size) ∧ Below w.heap.size w wr2 ∧ b2 < wr2.heap.size) (fun vi _ => s.size + 1 - (intOf vi).toNat)
        case atStart => exact ⟨0, Nat.zero_le _, rfl, f1, f2, f3, f5, f4⟩
        case round =>
          obtain ⟨i, hi, rfl, g1, g2, g3, g4, g5⟩ := hrel
          by_cases hile : i ≤ s.size
          · rcases Nat.eq_zero_or_pos i with rfl | hpos
            · have g2' := Lib.hid (show fcell wr b2 s.size (part (rowV (pre ++ [(⟨(p[k + 1].toNat : Int), false, false⟩ : Pc)]) (bytesOf s)) 1) from fun j hj => by
                rw [g2.out j hj, part_next, part_zero, rowV_one0 rfl]; try (split <;> rfl))
              go_wp2
              go_roundw
              case rel => exact ⟨1, by omega, by go_num, g1, g2', g3, g4, g5⟩
              case measure => simp [intOf]
            · obtain ⟨i, rfl⟩ : ∃ i' : Nat, i = i' + 1 := ⟨i - 1, by omega⟩
              have hii : i < s.size := by omega
              obtain ⟨hi', hsi⟩ := bytes_at s i hii
              have hrow := rowV_one (pre := pre) (p := (⟨(p[k + 1].toNat : Int), false, false⟩ : Pc)) rfl hi'
              rw [hsi] at hrow
              have r1 := g1.out i (by omega)
              have r2 := g2.out (i + 1) (by omega)
              rw [part_ge (Nat.le_refl _)] at r2
              have r3 := g3.out (i + 1) (by omega)
              have hput := fun v (hv : rowV (pre ++ [(⟨(p[k + 1].toNat : Int), false, false⟩ : Pc)]) (bytesOf s) (i + 1) = v) => fcell_put g2.out (i := i + 1) (by omega) v (g := part (rowV (pre ++ [(⟨(p[k + 1].toNat : Int), false, false⟩ : Pc)]) (bytesOf s)) (i + 1 + 1)) (fun j hj => by rw [part_next, hv])
              have hput := Lib.hid hput
              have hrow := Lib.hid hrow
              have c2 := s[i].toNat_lt
              clear hi' hsi
              cases hnow : rowV pre (bytesOf s) i with
              | false =>
                rw [hnow] at r1
                have hput := hput.out false (by rw [hrow.out, hnow]; rfl)
                have hput := Lib.hid hput
                go_wp2
                go_roundw
                case rel => exact ⟨i + 1 + 1, by omega, by go_num, Lib.hid (fcell_set g1.out (by omega) false), hput, Lib.hid (ffree_set g3.out _ _), Below.setCell g4 (by simp; omega) _, by simpa using g5⟩
                case measure => simp [intOf]; omega
              | true =>
                rw [hnow] at r1
                cases hcmp : ((p[k + 1].toNat : Int) == (s[i].toNat : Int)) with
                | false =>
                  have hput := hput.out false (by rw [hrow.out, hnow]; simpa using hcmp)
                  have hput := Lib.hid hput
                  have hcmp2 : ((s[i].toNat : Int) == (p[k + 1].toNat : Int)) = false := by rw [beq_eq_false_iff_ne] at hcmp ⊢; exact fun e => hcmp e.symm
                  go_wp2
                  go_roundw
                  case rel => exact ⟨i + 1 + 1, by omega, by go_num, Lib.hid (fcell_set g1.out (by omega) false), hput, Lib.hid (ffree_set g3.out _ _), Below.setCell g4 (by simp; omega) _, by simpa using g5⟩
                  case measure => simp [intOf]; omega
                | true =>
                  have hput := hput.out true (by rw [hrow.out, hnow]; simpa using hcmp)
                  have hput := Lib.hid hput
                  have hcmp2 : ((s[i].toNat : Int) == (p[k + 1].toNat : Int)) = true := by rw [beq_iff_eq] at hcmp ⊢; exact hcmp.symm
                  go_wp2
                  go_roundw
                  case rel => exact ⟨i + 1 + 1, by omega, by go_num, Lib.hid (fcell_set g1.out (by omega) true), hput, Lib.hid (ffree_set g3.out _ _), Below.setCell g4 (by simp; omega) _, by simpa using g5⟩
                  case measure => simp [intOf]; omega
          · obtain rfl : i = s.size + 1 := by omega
            have hfin := Lib.hid (show fcell wr b2 s.size (rowV (pre ++ [(⟨(p[k + 1].toNat : Int), false, false⟩ : Pc)]) (bytesOf s)) from fun j hj => by rw [g2.out j hj, part_lt (by omega)])
            go_wp2
            go_roundw
            case rel => exact ⟨k + 2, b2, _, by omega, by go_num, rfl, hwb, g5, hfin, hnext, g4⟩
            case measure => simp [intOf]; omega
      · have hnot : p[k].toNat ≠ 92 ∨ k + 1 = p.size := by omega
        have hnext0 : piecesOf (bytesOf p) = (pre ++ [(⟨(p[k].toNat : Int), ((p[k].toNat : Int) == 63), ((p[k].toNat : Int) == 42)⟩ : Pc)]) ++ piecesOf ((bytesOf p).drop (k + 1)) := by
          rw [hpre.out, pieces_one hk' (by rw [hpk, hlp]; omega), hpk]; simp
        have hx1 := Lib.hid hlp
        clear hpk hk' hlp
        rcases (by omega : p[k].toNat = 42 ∨ p[k].toNat = 63 ∨ (p[k].toNat = 92 ∧ k + 1 = p.size) ∨ (p[k].toNat ≠ 42 ∧ p[k].toNat ≠ 63 ∧ p[k].toNat ≠ 92)) with h | h | ⟨h, hkl⟩ | ⟨h1, h2, h3⟩
        · have hnext : piecesOf (bytesOf p) = (pre ++ [(⟨42, false, true⟩ : Pc)]) ++ piecesOf ((bytesOf p).drop (k + 1)) := by rw [hnext0, h]; rfl
          have hnext := Lib.hid hnext
          clear hnext0 hnot hesc
          go_wp2
          have f1 : fcell (wr.alloc (.cells (madeCells #[.bool false] (s.size + 1)) 4)) b s.size (rowV pre (bytesOf s)) := fun j hj => by rw [← hcell.out j hj]; exact (Below.alloc (Below.refl wr.heap.size wr) (Nat.le_refl _) _).cell (p := ⟨b, j, none⟩) hb1
          have f2 : fcell (wr.alloc (.cells (madeCells #[.bool false] (s.size + 1)) 4)) wr.heap.size s.size (part (rowV (pre ++ [(⟨42, false, true⟩ : Pc)]) (bytesOf s)) 0) := fun j hj => by rw [part_zero]; exact hmc.out _ _ (by omega)
          have f3 : ffree (wr.alloc (.cells (madeCells #[.bool false] (s.size + 1)) 4)) wr.heap.size s.size := fun j hj => hmf.out _ _
          have f4 : wr.heap.size < (wr.alloc (.cells (madeCells #[.bool false] (s.size + 1)) 4)).heap.size := by simp
          have f5 : Below w.heap.size w (wr.alloc (.cells (madeCells #[.bool false] (s.size + 1)) 4)) := (by repeat (first | exact Below.refl _ _ | apply below_alloc | apply pw_below_drewN | apply below_drew1 | (refine Below.setCell ?_ (by first | (simp; done) | (simp; omega) | omega) _) | exact hBw))
          have hwb : w.heap.size ≤ wr.heap.size := hBw.size
          clear hcell hBw
          generalize wr.alloc (.cells (madeCells #[.bool false] (s.size + 1)) 4) = W0 at *
          generalize wr.heap.size = b2 at *
          have f1 := Lib.hid f1
          have f2 := Lib.hid f2
          have f3 := Lib.hid f3
          go_loopw [11] (fun vi wr2 => ∃ i : Nat, i ≤ s.size + 1 ∧ vi = .int .i64 i ∧ Hid (fcell wr2 b s.size (rowV pre (bytesOf s))) ∧ Hid (fcell wr2 b2 s.size (part (rowV (pre ++ [(⟨42, false, true⟩ : Pc)]) (bytesOf s)) i)) ∧ Hid (ffree wr2 b2 s.size) ∧ Below w.heap.size w wr2 ∧ b2 < wr2.heap.size) (fun vi _ => s.size + 1 - (intOf vi).toNat)
          case atStart => exact ⟨0, Nat.zero_le _, rfl, f1, f2, f3, f5, f4⟩
          case round =>
            obtain ⟨i, hi, rfl, g1, g2, g3, g4, g5⟩ := hrel
            by_cases hile : i ≤ s.size
            · have r1 := g1.out i hile
              have r2 := g2.out i hile
              rw [part_ge (Nat.le_refl _)] at r2
              have r3 := g3.out i hile
              have hput := fun v (hv : rowV (pre ++ [(⟨42, false, true⟩ : Pc)]) (bytesOf s) i = v) => fcell_put g2.out (i := i) hile v (g := part (rowV (pre ++ [(⟨42, false, true⟩ : Pc)]) (bytesOf s)) (i + 1)) (fun j hj => by rw [part_next, hv])
              have hput := Lib.hid hput
              rcases Nat.eq_zero_or_pos i with rfl | hpos
              · have hrow := Lib.hid (rowV_many0 (pre := pre) (p := (⟨42, false, true⟩ : Pc)) rfl (s := bytesOf s))
                cases hnow : rowV pre (bytesOf s) 0 with
                | false =>
                  rw [hnow] at r1
                  have hput := hput.out false (by rw [hrow.out, hnow])
                  have hput := Lib.hid hput
                  go_wp2
                  go_roundw
                  case rel => exact ⟨1, by omega, by go_num, Lib.hid (fcell_set g1.out (by omega) false), hput, Lib.hid (ffree_set g3.out _ _), Below.setCell g4 (by simp; omega) _, by simpa using g5⟩
                  case measure => simp [intOf]
                | true =>
                  rw [hnow] at r1
                  have hput := hput.out true (by rw [hrow.out, hnow])
                  have hput := Lib.hid hput
                  go_wp2
                  go_roundw
                  case rel => exact ⟨1, by omega, by go_num, Lib.hid (fcell_set g1.out (by omega) true), hput, Lib.hid (ffree_set g3.out _ _), Below.setCell g4 (by simp; omega) _, by simpa using g5⟩
                  case measure => simp [intOf]
              · obtain ⟨i, rfl⟩ : ∃ i' : Nat, i = i' + 1 := ⟨i - 1, by omega⟩
                have hii : i < s.size := by omega
                have hrow := Lib.hid (rowV_many (pre := pre) (p := (⟨42, false, true⟩ : Pc)) rfl (s := bytesOf s) (i := i) (by rw [hls]; exact hii))
                have r4 := g2.out i (by omega)
                rw [part_lt (Nat.lt_succ_self _)] at r4
                cases hnow : rowV pre (bytesOf s) (i + 1) with
                | true =>
                  rw [hnow] at r1
                  have hput := hput.out true (by rw [hrow.out, hnow]; rfl)
                  have hput := Lib.hid hput
                  go_wp2
                  go_roundw
                  case rel => exact ⟨i + 1 + 1, by omega, by go_num, Lib.hid (fcell_set g1.out (by omega) true), hput, Lib.hid (ffree_set g3.out _ _), Below.setCell g4 (by simp; omega) _, by simpa using g5⟩
                  case measure => simp [intOf]; omega
                | false =>
                  rw [hnow] at r1
                  cases hpv : rowV (pre ++ [(⟨42, false, true⟩ : Pc)]) (bytesOf s) i with
                  | true =>
                    rw [hpv] at r4
                    have hput := hput.out true (by rw [hrow.out, hnow, hpv]; rfl)
                    have hput := Lib.hid hput
                    go_wp2
                    go_roundw
                    case rel => exact ⟨i + 1 + 1, by omega, by go_num, Lib.hid (fcell_set g1.out (by omega) true), hput, Lib.hid (ffree_set g3.out _ _), Below.setCell g4 (by simp; omega) _, by simpa using g5⟩
                    case measure => simp [intOf]; omega
                  | false =>
                    rw [hpv] at r4
                    have hput := hput.out false (by rw [hrow.out, hnow, hpv]; rfl)
                    have hput := Lib.hid hput
                    go_wp2
                    go_roundw
                    case rel => exact ⟨i + 1 + 1, by omega, by go_num, Lib.hid (fcell_set g1.out (by omega) false), hput, Lib.hid (ffree_set g3.out _ _), Below.setCell g4 (by simp; omega) _, by simpa using g5⟩
                    case measure => simp [intOf]; omega
            · obtain rfl : i = s.size + 1 := by omega
              have hfin := Lib.hid (show fcell wr b2 s.size (rowV (pre ++ [(⟨42, false, true⟩ : Pc)]) (bytesOf s)) from fun j hj => by rw [g2.out j hj, part_lt (by omega)])
              go_wp2
              go_roundw
              case rel => exact ⟨k + 1, b2, _, by omega, by go_num, rfl, hwb, g5, hfin, hnext, g4⟩
              case measure => simp [intOf]; omega
        · have hnext : piecesOf (bytesOf p) = (pre ++ [(⟨63, true, false⟩ : Pc)]) ++ piecesOf ((bytesOf p).drop (k + 1)) := by rw [hnext0, h]; rfl
          have hnext := Lib.hid hnext
          clear hnext0 hnot hesc
          go_wp2
          have f1 : fcell (wr.alloc (.cells (madeCells #[.bool false] (s.size + 1)) 4)) b s.size (rowV pre (bytesOf s)) := fun j hj => by rw [← hcell.out j hj]; exact (Below.alloc (Below.refl wr.heap.size wr) (Nat.le_refl _) _).cell (p := ⟨b, j, none⟩) hb1
          have f2 : fcell (wr.alloc (.cells (madeCells #[.bool false] (s.size + 1)) 4)) wr.heap.size s.size (part (rowV (pre ++ [(⟨63, true, false⟩ : Pc)]) (bytesOf s)) 0) := fun j hj => by rw [part_zero]; exact hmc.out _ _ (by omega)
          have f3 : ffree (wr.alloc (.cells (madeCells #[.bool false] (s.size + 1)) 4)) wr.heap.size s.size := fun j hj => hmf.out _ _
          have f4 : wr.heap.size < (wr.alloc (.cells (madeCells #[.bool false] (s.size + 1)) 4)).heap.size := by simp
          have f5 : Below w.heap.size w (wr.alloc (.cells (madeCells #[.bool false] (s.size + 1)) 4)) := (by repeat (first | exact Below.refl _ _ | apply below_alloc | apply pw_below_drewN | apply below_drew1 | (refine Below.setCell ?_ (by first | (simp; done) | (simp; omega) | omega) _) | exact hBw))
          have hwb : w.heap.size ≤ wr.heap.size := hBw.size
          clear hcell hBw
          generalize wr.alloc (.cells (madeCells #[.bool false] (s.size + 1)) 4) = W0 at *
          generalize wr.heap.size = b2 at *
          have f1 := Lib.hid f1
          have f2 := Lib.hid f2
          have f3 := Lib.hid f3
          go_loopw [11] (fun vi wr2 => ∃ i : Nat, i ≤ s.size + 1 ∧ vi = .int .i64 i ∧ Hid (fcell wr2 b s.size (rowV pre (bytesOf s))) ∧ Hid (fcell wr2 b2 s.size (part (rowV (pre ++ [(⟨63, true, false⟩ : Pc)]) (bytesOf s)) i)) ∧ Hid (ffree wr2 b2 s.size) ∧ Below w.heap.size w wr2 ∧ b2 < wr2.heap.size) (fun vi _ => s.size + 1 - (intOf vi).toNat)
          case atStart => exact ⟨0, Nat.zero_le _, rfl, f1, f2, f3, f5, f4⟩
          case round =>
            obtain ⟨i, hi, rfl, g1, g2, g3, g4, g5⟩ := hrel
            by_cases hile : i ≤ s.size
            · rcases Nat.eq_zero_or_pos i with rfl | hpos
              · have g2' := Lib.hid (show fcell wr b2 s.size (part (rowV (pre ++ [(⟨63, true, false⟩ : Pc)]) (bytesOf s)) 1) from fun j hj => by
                  rw [g2.out j hj, part_next, part_zero, rowV_one0 rfl]; try (split <;> rfl))
                go_wp2
                go_roundw
                case rel => exact ⟨1, by omega, by go_num, g1, g2', g3, g4, g5⟩
                case measure => simp [intOf]
              · obtain ⟨i, rfl⟩ : ∃ i' : Nat, i = i' + 1 := ⟨i - 1, by omega⟩
                have hii : i < s.size := by omega
                obtain ⟨hi', hsi⟩ := bytes_at s i hii
                have hrow := rowV_one (pre := pre) (p := (⟨63, true, false⟩ : Pc)) rfl hi'
                rw [hsi] at hrow
                have r1 := g1.out i (by omega)
                have r2 := g2.out (i + 1) (by omega)
                rw [part_ge (Nat.le_refl _)] at r2
                have r3 := g3.out (i + 1) (by omega)
                have hput := fun v (hv : rowV (pre ++ [(⟨63, true, false⟩ : Pc)]) (bytesOf s) (i + 1) = v) => fcell_put g2.out (i := i + 1) (by omega) v (g := part (rowV (pre ++ [(⟨63, true, false⟩ : Pc)]) (bytesOf s)) (i + 1 + 1)) (fun j hj => by rw [part_next, hv])
                have hput := Lib.hid hput
                have hrow := Lib.hid hrow
                have c2 := s[i].toNat_lt
                clear hi' hsi
                cases hnow : rowV pre (bytesOf s) i with
                | false =>
                  rw [hnow] at r1
                  have hput := hput.out false (by rw [hrow.out, hnow]; rfl)
                  have hput := Lib.hid hput
                  go_wp2
                  go_roundw
                  case rel => exact ⟨i + 1 + 1, by omega, by go_num, Lib.hid (fcell_set g1.out (by omega) false), hput, Lib.hid (ffree_set g3.out _ _), Below.setCell g4 (by simp; omega) _, by simpa using g5⟩
                  case measure => simp [intOf]; omega
                | true =>
                  rw [hnow] at r1
                  have hput := hput.out true (by rw [hrow.out, hnow]; rfl)
                  have hput := Lib.hid hput
                  go_wp2
                  go_roundw
                  case rel => exact ⟨i + 1 + 1, by omega, by go_num, Lib.hid (fcell_set g1.out (by omega) true), hput, Lib.hid (ffree_set g3.out _ _), Below.setCell g4 (by simp; omega) _, by simpa using g5⟩
                  case measure => simp [intOf]; omega
            · obtain rfl : i = s.size + 1 := by omega
              have hfin := Lib.hid (show fcell wr b2 s.size (rowV (pre ++ [(⟨63, true, false⟩ : Pc)]) (bytesOf s)) from fun j hj => by rw [g2.out j hj, part_lt (by omega)])
              go_wp2
              go_roundw
              case rel => exact ⟨k + 1, b2, _, by omega, by go_num, rfl, hwb, g5, hfin, hnext, g4⟩
              case measure => simp [intOf]; omega
        · have hnext : piecesOf (bytesOf p) = (pre ++ [(⟨92, false, false⟩ : Pc)]) ++ piecesOf ((bytesOf p).drop (k + 1)) := by rw [hnext0, h]; rfl
          have hnext := Lib.hid hnext
          have hk3 : ¬ (k : Int) + 1 < p.size := by omega
          clear hnext0 hnot hesc
          go_wp2
          have f1 : fcell (wr.alloc (.cells (madeCells #[.bool false] (s.size + 1)) 4)) b s.size (rowV pre (bytesOf s)) := fun j hj => by rw [← hcell.out j hj]; exact (Below.alloc (Below.refl wr.heap.size wr) (Nat.le_refl _) _).cell (p := ⟨b, j, none⟩) hb1
          have f2 : fcell (wr.alloc (.cells (madeCells #[.bool false] (s.size + 1)) 4)) wr.heap.size s.size (part (rowV (pre ++ [(⟨92, false, false⟩ : Pc)]) (bytesOf s)) 0) := fun j hj => by rw [part_zero]; exact hmc.out _ _ (by omega)
          have f3 : ffree (wr.alloc (.cells (madeCells #[.bool false] (s.size + 1)) 4)) wr.heap.size s.size := fun j hj => hmf.out _ _
          have f4 : wr.heap.size < (wr.alloc (.cells (madeCells #[.bool false] (s.size + 1)) 4)).heap.size := by simp
          have f5 : Below w.heap.size w (wr.alloc (.cells (madeCells #[.bool false] (s.size + 1)) 4)) := (by repeat (first | exact Below.refl _ _ | apply below_alloc | apply pw_below_drewN | apply below_drew1 | (refine Below.setCell ?_ (by first | (simp; done) | (simp; omega) | omega) _) | exact hBw))
          have hwb : w.heap.size ≤ wr.heap.size := hBw.size
          clear hcell hBw
          generalize wr.alloc (.cells (madeCells #[.bool false] (s.size + 1)) 4) = W0 at *
          generalize wr.heap.size = b2 at *
          have f1 := Lib.hid f1
          have f2 := Lib.hid f2
          have f3 := Lib.hid f3
          go_loopw [11] (fun vi wr2 => ∃ i : Nat, i ≤ s.size + 1 ∧ vi = .int .i64 i ∧ Hid (fcell wr2 b s.size (rowV pre (bytesOf s))) ∧ Hid (fcell wr2 b2 s.size (part (rowV (pre ++ [(⟨92, false, false⟩ : Pc)]) (bytesOf s)) i)) ∧ Hid (ffree wr2 b2 s.size) ∧ Below w.heap.size w wr2 ∧ b2 < wr2.heap.size) (fun vi _ => s.size + 1 - (intOf vi).toNat)
          case atStart => exact ⟨0, Nat.zero_le _, rfl, f1, f2, f3, f5, f4⟩
          case round =>
            obtain ⟨i, hi, rfl, g1, g2, g3, g4, g5⟩ := hrel
            by_cases hile : i ≤ s.size
            · rcases Nat.eq_zero_or_pos i with rfl | hpos
              · have g2' := Lib.hid (show fcell wr b2 s.size (part (rowV (pre ++ [(⟨92, false, false⟩ : Pc)]) (bytesOf s)) 1) from fun j hj => by
                  rw [g2.out j hj, part_next, part_zero, rowV_one0 rfl]; try (split <;> rfl))
                go_wp2
                go_roundw
                case rel => exact ⟨1, by omega, by go_num, g1, g2', g3, g4, g5⟩
                case measure => simp [intOf]
              · obtain ⟨i, rfl⟩ : ∃ i' : Nat, i = i' + 1 := ⟨i - 1, by omega⟩
                have hii : i < s.size := by omega
                obtain ⟨hi', hsi⟩ := bytes_at s i hii
                have hrow := rowV_one (pre := pre) (p := (⟨92, false, false⟩ : Pc)) rfl hi'
                rw [hsi] at hrow
                have r1 := g1.out i (by omega)
                have r2 := g2.out (i + 1) (by omega)
                rw [part_ge (Nat.le_refl _)] at r2
                have r3 := g3.out (i + 1) (by omega)
                have hput := fun v (hv : rowV (pre ++ [(⟨92, false, false⟩ : Pc)]) (bytesOf s) (i + 1) = v) => fcell_put g2.out (i := i + 1) (by omega) v (g := part (rowV (pre ++ [(⟨92, false, false⟩ : Pc)]) (bytesOf s)) (i + 1 + 1)) (fun j hj => by rw [part_next, hv])
                have hput := Lib.hid hput
                have hrow := Lib.hid hrow
                have c2 := s[i].toNat_lt
                clear hi' hsi
                cases hnow : rowV pre (bytesOf s) i with
                | false =>
                  rw [hnow] at r1
                  have hput := hput.out false (by rw [hrow.out, hnow]; rfl)
                  have hput := Lib.hid hput
                  go_wp2
                  go_roundw
                  case rel => exact ⟨i + 1 + 1, by omega, by go_num, Lib.hid (fcell_set g1.out (by omega) false), hput, Lib.hid (ffree_set g3.out _ _), Below.setCell g4 (by simp; omega) _, by simpa using g5⟩
                  case measure => simp [intOf]; omega
                | true =>
                  rw [hnow] at r1
                  cases hcmp : ((92 : Int) == (s[i].toNat : Int)) with
                  | false =>
                    have hput := hput.out false (by rw [hrow.out, hnow]; simpa using hcmp)
                    have hput := Lib.hid hput
                    have hcmp2 : ((s[i].toNat : Int) == (92 : Int)) = false := by rw [beq_eq_false_iff_ne] at hcmp ⊢; exact fun e => hcmp e.symm
                    go_wp2
                    go_roundw
                    case rel => exact ⟨i + 1 + 1, by omega, by go_num, Lib.hid (fcell_set g1.out (by omega) false), hput, Lib.hid (ffree_set g3.out _ _), Below.setCell g4 (by simp; omega) _, by simpa using g5⟩
                    case measure => simp [intOf]; omega
                  | true =>
                    have hput := hput.out true (by rw [hrow.out, hnow]; simpa using hcmp)
                    have hput := Lib.hid hput
                    have hcmp2 : ((s[i].toNat : Int) == (92 : Int)) = true := by rw [beq_iff_eq] at hcmp ⊢; exact hcmp.symm
                    go_wp2
                    go_roundw
                    case rel => exact ⟨i + 1 + 1, by omega, by go_num, Lib.hid (fcell_set g1.out (by omega) true), hput, Lib.hid (ffree_set g3.out _ _), Below.setCell g4 (by simp; omega) _, by simpa using g5⟩
                    case measure => simp [intOf]; omega
            · obtain rfl : i = s.size + 1 := by omega
              have hfin := Lib.hid (show fcell wr b2 s.size (rowV (pre ++ [(⟨92, false, false⟩ : Pc)]) (bytesOf s)) from fun j hj => by rw [g2.out j hj, part_lt (by omega)])
              go_wp2
              go_roundw
              case rel => exact ⟨k + 1, b2, _, by omega, by go_num, rfl, hwb, g5, hfin, hnext, g4⟩
              case measure => simp [intOf]; omega
        · have e1 : ((p[k].toNat : Int) == 42) = false := by rw [beq_eq_false_iff_ne]; omega
          have e2 : ((p[k].toNat : Int) == 63) = false := by rw [beq_eq_false_iff_ne]; omega
          have e3 : ((p[k].toNat : Int) == 92) = false := by rw [beq_eq_false_iff_ne]; omega
          have hnext : piecesOf (bytesOf p) = (pre ++ [(⟨(p[k].toNat : Int), false, false⟩ : Pc)]) ++ piecesOf ((bytesOf p).drop (k + 1)) := by rw [hnext0, e1, e2]
          have hnext := Lib.hid hnext
          clear hnext0 hnot hesc
          go_wp2
          have f1 : fcell (wr.alloc (.cells (madeCells #[.bool false] (s.size + 1)) 4)) b s.size (rowV pre (bytesOf s)) := fun j hj => by rw [← hcell.out j hj]; exact (Below.alloc (Below.refl wr.heap.size wr) (Nat.le_refl _) _).cell (p := ⟨b, j, none⟩) hb1
          have f2 : fcell (wr.alloc (.cells (madeCells #[.bool false] (s.size + 1)) 4)) wr.heap.size s.size (part (rowV (pre ++ [(⟨(p[k].toNat : Int), false, false⟩ : Pc)]) (bytesOf s)) 0) := fun j hj => by rw [part_zero]; exact hmc.out _ _ (by omega)
          have f3 : ffree (wr.alloc (.cells (madeCells #[.bool false] (s.size + 1)) 4)) wr.heap.size s.size := fun j hj => hmf.out _ _
          have f4 : wr.heap.size < (wr.alloc (.cells (madeCells #[.bool false] (s.size + 1)) 4)).heap.size := by simp
          have f5 : Below w.heap.size w (wr.alloc (.cells (madeCells #[.bool false] (s.size + 1)) 4)) := (by repeat (first | exact Below.refl _ _ | apply below_alloc | apply pw_below_drewN | apply below_drew1 | (refine Below.setCell ?_ (by first | (simp; done) | (simp; omega) | omega) _) | exact hBw))
          have hwb : w.heap.size ≤ wr.heap.size := hBw.size
          clear hcell hBw
          generalize wr.alloc (.cells (madeCells #[.bool false] (s.size + 1)) 4) = W0 at *
          generalize wr.heap.size = b2 at *
          have f1 := Lib.hid f1
          have f2 := Lib.hid f2
          have f3 := Lib.hid f3
          go_loopw [11] (fun vi wr2 => ∃ i : Nat, i ≤ s.size + 1 ∧ vi = .int .i64 i ∧ Hid (fcell wr2 b s.size (rowV pre (bytesOf s))) ∧ Hid (fcell wr2 b2 s.size (part (rowV (pre ++ [(⟨(p[k].toNat : Int), false, false⟩ : Pc)]) (bytesOf s)) i)) ∧ Hid (ffree wr2 b2 s.size) ∧ Below w.heap.size w wr2 ∧ b2 < wr2.heap.size) (fun vi _ => s.size + 1 - (intOf vi).toNat)
          case atStart => exact ⟨0, Nat.zero_le _, rfl, f1, f2, f3, f5, f4⟩
          case round =>
            obtain ⟨i, hi, rfl, g1, g2, g3, g4, g5⟩ := hrel
            by_cases hile : i ≤ s.size
            · rcases Nat.eq_zero_or_pos i with rfl | hpos
              · have g2' := Lib.hid (show fcell wr b2 s.size (part (rowV (pre ++ [(⟨(p[k].toNat : Int), false, false⟩ : Pc)]) (bytesOf s)) 1) from fun j hj => by
                  rw [g2.out j hj, part_next, part_zero, rowV_one0 rfl]; try (split <;> rfl))
                go_wp2
                go_roundw
                case rel => exact ⟨1, by omega, by go_num, g1, g2', g3, g4, g5⟩
                case measure => simp [intOf]
              · obtain ⟨i, rfl⟩ : ∃ i' : Nat, i = i' + 1 := ⟨i - 1, by omega⟩
                have hii : i < s.size := by omega
                obtain ⟨hi', hsi⟩ := bytes_at s i hii
                have hrow := rowV_one (pre := pre) (p := (⟨(p[k].toNat : Int), false, false⟩ : Pc)) rfl hi'
                rw [hsi] at hrow
                have r1 := g1.out i (by omega)
                have r2 := g2.out (i + 1) (by omega)
                rw [part_ge (Nat.le_refl _)] at r2
                have r3 := g3.out (i + 1) (by omega)
                have hput := fun v (hv : rowV (pre ++ [(⟨(p[k].toNat : Int), false, false⟩ : Pc)]) (bytesOf s) (i + 1) = v) => fcell_put g2.out (i := i + 1) (by omega) v (g := part (rowV (pre ++ [(⟨(p[k].toNat : Int), false, false⟩ : Pc)]) (bytesOf s)) (i + 1 + 1)) (fun j hj => by rw [part_next, hv])
                have hput := Lib.hid hput
                have hrow := Lib.hid hrow
                have c2 := s[i].toNat_lt
                clear hi' hsi
                cases hnow : rowV pre (bytesOf s) i with
                | false =>
                  rw [hnow] at r1
                  have hput := hput.out false (by rw [hrow.out, hnow]; rfl)
                  have hput := Lib.hid hput
                  go_wp2
                  go_roundw
                  case rel => exact ⟨i + 1 + 1, by omega, by go_num, Lib.hid (fcell_set g1.out (by omega) false), hput, Lib.hid (ffree_set g3.out _ _), Below.setCell g4 (by simp; omega) _, by simpa using g5⟩
                  case measure => simp [intOf]; omega
                | true =>
                  rw [hnow] at r1
                  cases hcmp : ((p[k].toNat : Int) == (s[i].toNat : Int)) with
                  | false =>
                    have hput := hput.out false (by rw [hrow.out, hnow]; simpa using hcmp)
                    have hput := Lib.hid hput
                    have hcmp2 : ((s[i].toNat : Int) == (p[k].toNat : Int)) = false := by rw [beq_eq_false_iff_ne] at hcmp ⊢; exact fun e => hcmp e.symm
                    go_wp2
                    go_roundw
                    case rel => exact ⟨i + 1 + 1, by omega, by go_num, Lib.hid (fcell_set g1.out (by omega) false), hput, Lib.hid (ffree_set g3.out _ _), Below.setCell g4 (by simp; omega) _, by simpa using g5⟩
                    case measure => simp [intOf]; omega
                  | true =>
                    have hput := hput.out true (by rw [hrow.out, hnow]; simpa using hcmp)
                    have hput := Lib.hid hput
                    have hcmp2 : ((s[i].toNat : Int) == (p[k].toNat : Int)) = true := by rw [beq_iff_eq] at hcmp ⊢; exact hcmp.symm
                    go_wp2
                    go_roundw
                    case rel => exact ⟨i + 1 + 1, by omega, by go_num, Lib.hid (fcell_set g1.out (by omega) true), hput, Lib.hid (ffree_set g3.out _ _), Below.setCell g4 (by simp; omega) _, by simpa using g5⟩
                    case measure => simp [intOf]; omega
            · obtain rfl : i = s.size + 1 := by omega
              have hfin := Lib.hid (show fcell wr b2 s.size (rowV (pre ++ [(⟨(p[k].toNat : Int), false, false⟩ : Pc)]) (bytesOf s)) from fun j hj => by rw [g2.out j hj, part_lt (by omega)])
              go_wp2
              go_roundw
              case rel => exact ⟨k + 1, b2, _, by omega, by go_num, rfl, hwb, g5, hfin, hnext, g4⟩
              case measure => simp [intOf]; omega
    · obtain rfl : k = p.size := by omega
      have hfin : rowV pre (bytesOf s) s.size = fitsV (piecesOf (bytesOf p)) (bytesOf s) := by
        rw [hpre.out, rowV, List.take_of_length_le (by rw [hls]; exact Nat.le_refl _), List.drop_eq_nil_of_le (by rw [hlp]; exact Nat.le_refl _)]
        simp [piecesOf]
      have r1 := hcell.out s.size (Nat.le_refl _)
      rw [hfin] at r1
      clear hfin
      go_wp2
      go_ret
      exact ⟨(by first | rfl | (simp; done) | (simp [*]; done) | (rw [if_pos (by omega)]; first | rfl | (simp; done)) | (rw [if_neg (by omega)]; first | rfl | (simp; done)) | (simp; omega)), (by repeat (first | exact Below.refl _ _ | apply below_alloc | apply pw_below_drewN | apply below_drew1 | (refine Below.setCell ?_ (by first | (simp; done) | (simp; omega) | omega) _) | exact hBw))⟩
end Go.Proofs.Ytioemcfadniokaa.H
