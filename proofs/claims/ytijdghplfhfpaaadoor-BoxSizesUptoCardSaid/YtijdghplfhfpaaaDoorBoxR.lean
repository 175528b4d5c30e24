/- Boxes: box.Size. -/
import Derived.Test.YtijdghplfhfpaaaDoorBoxH
import Derived.Test.YtijdghplfhfpaaaDoorBoxP
namespace Go.Proofs.YtijdghplfhfpaaaDoor.H
open Go.RowKit Go.Proofs.YtijdghplfhfpaaaDoorW.PrintWords Go.Proofs.YtijdghplfhfpaaaDoorW.PrintLast Go.Proofs.YtijdghplfhfpaaaDoorW.PrintMore Go.Proofs.YtijdghplfhfpaaaDoor.U
set_option linter.unusedVariables false
set_option linter.unusedSimpArgs false
theorem st_tot {bs : List ABox} {es : List AEntry} (hs : okSt bs es) (h : stFault bs es = 0) : stSize bs ≤ 300000 := by
  have h1 := inv_of_ok hs h
  have h2 := inv_size h1.2.2
  have h3 : bs.length * 60000 ≤ 5 * 60000 := Nat.mul_le_mul_right _ h1.1
  omega
def sizeOf' (bs : List ABox) (es : List AEntry) : Int := if stFault bs es = 0 then (stSize bs : Int) else 0
set_option maxHeartbeats 1000000 in
set_option maxRecDepth 100000 in
theorem sizeTop_calls (A : Option Addr) (c : Nat) (bs : List ABox) (A2 : Option Addr) (c2 : Nat) (es : List AEntry) (m : Int) (w : World) (hr : kBox.C w A bs.length bs) (hc : bs.length ≤ c) (hr2 : Kd.C kAEntry w A2 es.length es) (hs : okSt bs es)
    (hm : w.cell? ⟨6, 0, none⟩ = some (.int .i64 m)) (hg : 6 < w.heap.size) :
    Calls Tryd.prog 16 #[.agg #[.slice A bs.length c, .slice A2 es.length c2]] w fun e w' => e = .returned (.tuple #[.int .i64 (sizeOf' bs es), .int .i64 (stFault bs es)]) ∧ Below w.heap.size w w' := by
  have hB0 : Below w.heap.size w (w.alloc (.cells #[.slice A bs.length c, .slice A2 es.length c2] 25)) := (by repeat (first | exact Below.refl _ _ | apply below_alloc | apply pw_below_drewN | apply below_drew1 | (refine Below.setCell ?_ (by first | (simp; done) | (simp; omega) | omega) _) ))
  have hk0 := Blk.made w #[.slice A bs.length c, .slice A2 es.length c2] 25
  have HC := boxCheck_calls A c bs A2 c2 es m (w.alloc (.cells #[.slice A bs.length c, .slice A2 es.length c2] 25)) (Kd.C_below hr hB0) hc (Kd.C_below hr2 hB0) hs (cell_below hB0 hm hg) (by simp; omega)
  unfold sizeOf'
  by_cases hf : stFault bs es = 0
  · have ht := st_tot hs hf
    rw [if_pos hf]
    rw [hf] at HC ⊢
    have HZ := Lib.hid (fun w hr => size_calls A c bs (.slice A2 es.length c2) w ⟨_, _, _, rfl⟩ hr (by omega))
    generalize stSize bs = z at *
    replace HC := Lib.hid HC
    clear hf
    go_enter Tryd.func16, Tryd.ntmps16
    go_wp2_with fail
    refine HC.out.mono ?_
    rintro e w1 ⟨rfl, hb1⟩
    have hz1 := hb1.size
    simp at hz1
    have hk1 := hk0.below hb1 (by simp)
    have k0 := hk1.at 0 _ rfl
    have k1 := hk1.at 1 _ rfl
    have hB1 := hB0.trans (hb1.mono (by simp))
    go_wp2_with fail
    refine (HZ.out _ (Kd.C_below hr hB1)).mono ?_
    rintro e w2 ⟨rfl, hb2⟩
    go_wp2_with fail
    refine bodyPost_ret (v := .tuple #[.int .i64 z, .int .i64 0]) (by simp [results, Tryd.results16, go_sem, *]) rfl ⟨(by first | rfl | (simp; done) | (simp [*]; done) | (rw [if_pos (by omega)]; first | rfl | (simp; done)) | (rw [if_neg (by omega)]; first | rfl | (simp; done)) | (simp; omega)), hB1.trans (hb2.mono hB1.size)⟩
  · rw [if_neg hf]
    generalize stFault bs es = f at *
    have hfb : (f != 0) = true := by simp [hf]
    replace HC := Lib.hid HC
    clear hf
    go_enter Tryd.func16, Tryd.ntmps16
    go_wp2_with fail
    refine HC.out.mono ?_
    rintro e w1 ⟨rfl, hb1⟩
    go_wp2_with fail
    refine bodyPost_ret (v := .tuple #[.int .i64 0, .int .i64 f]) (by simp [results, Tryd.results16, go_sem, *]) rfl ⟨(by first | rfl | (simp; done) | (simp [*]; done) | (rw [if_pos (by omega)]; first | rfl | (simp; done)) | (rw [if_neg (by omega)]; first | rfl | (simp; done)) | (simp; omega)), hB0.trans (hb1.mono (by simp))⟩
end Go.Proofs.YtijdghplfhfpaaaDoor.H
