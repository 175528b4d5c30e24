/- Joined tokens: quoting: the walk of token.quote. -/
import Derived.Test.YtpeenmbonhijmaaDoorJoinA
import Derived.Lib.SplitLaws
namespace Go.Proofs.YtpeenmbonhijmaaDoor.H
open Go.RowKit Go.Proofs.YtpeenmbonhijmaaDoorW.PrintWords Go.Proofs.YtpeenmbonhijmaaDoorW.PrintLast Go.Proofs.YtpeenmbonhijmaaDoorW.PrintMore Go.Proofs.YtpeenmbonhijmaaDoor.U
set_option linter.unusedVariables false
set_option linter.unusedSimpArgs false
def esc1 (s : ByteArray) : ByteArray := ⟨(s.data.toList.flatMap fun b => if b = 92 then [92, 92] else [b]).toArray⟩
def esc2 (s : ByteArray) : ByteArray := ⟨(s.data.toList.flatMap fun b => if b = 34 then [92, 34] else [b]).toArray⟩
def quoteT (s : ByteArray) : ByteArray := ⟨([34] ++ escL s.data.toList ++ [34]).toArray⟩
theorem flat_le (f : UInt8 → List UInt8) (hf : ∀ b, (f b).length ≤ 2) (l : List UInt8) : (l.flatMap f).length ≤ 2 * l.length := by
  induction l with
  | nil => simp
  | cons b t ih => rw [List.flatMap_cons, List.length_append, List.length_cons]; have := hf b; omega
theorem esc1_size (s : ByteArray) : (esc1 s).size ≤ 2 * s.size := by
  have := flat_le (fun b => if b = 92 then [92, 92] else [b]) (fun b => by split <;> simp) s.data.toList
  rw [show s.data.toList.length = s.size by simp] at this
  show (List.toArray _).size ≤ _
  rw [List.size_toArray]
  exact this
theorem esc2_size (s : ByteArray) : (esc2 s).size ≤ 2 * s.size := by
  have := flat_le (fun b => if b = 34 then [92, 34] else [b]) (fun b => by split <;> simp) s.data.toList
  rw [show s.data.toList.length = s.size by simp] at this
  show (List.toArray _).size ≤ _
  rw [List.size_toArray]
  exact this
theorem quote_eq (s : ByteArray) : (⟨#[34]⟩ : ByteArray) ++ esc2 (esc1 s) ++ (⟨#[34]⟩ : ByteArray) = quoteT s := by
  apply bytes_iff.1
  rw [ByteArray.data_append, ByteArray.data_append, Array.toList_append, Array.toList_append]
  simp only [quoteT, esc2, esc1]
  rw [← esc_two]
theorem repl92 (s : ByteArray) (m : Int) (w : World) (hs : s.size ≤ 4194304) (hm : w.cell? ⟨0, 0, none⟩ = some (.int .i64 m)) :
    Calls Tryd.prog 132 #[.string s, .string ⟨#[92]⟩, .string ⟨#[92, 92]⟩] w fun e w' => e = .returned (.string (esc1 s)) ∧ Below w.heap.size w w' := by
  have hc := Lib.countB_le (⟨#[92]⟩ : ByteArray) (by decide) s.size s (Nat.le_refl _)
  have h := Tryd.strings_ReplaceAll s ⟨#[92]⟩ ⟨#[92, 92]⟩ m w (by omega) hm (by decide) (by have : (⟨#[92, 92]⟩ : ByteArray).size = 2 := rfl; rw [this]; omega)
  rw [show Lib.replaceAll s.data.toList (⟨#[92]⟩ : ByteArray).data.toList (⟨#[92, 92]⟩ : ByteArray).data.toList = s.data.toList.flatMap (fun b => if b = 92 then [92, 92] else [b]) from repl_all 92 [92, 92] (by decide) _] at h
  exact h
theorem repl34 (s : ByteArray) (m : Int) (w : World) (hs : s.size ≤ 4194304) (hm : w.cell? ⟨0, 0, none⟩ = some (.int .i64 m)) :
    Calls Tryd.prog 132 #[.string s, .string ⟨#[34]⟩, .string ⟨#[92, 34]⟩] w fun e w' => e = .returned (.string (esc2 s)) ∧ Below w.heap.size w w' := by
  have hc := Lib.countB_le (⟨#[34]⟩ : ByteArray) (by decide) s.size s (Nat.le_refl _)
  have h := Tryd.strings_ReplaceAll s ⟨#[34]⟩ ⟨#[92, 34]⟩ m w (by omega) hm (by decide) (by have : (⟨#[92, 34]⟩ : ByteArray).size = 2 := rfl; rw [this]; omega)
  rw [show Lib.replaceAll s.data.toList (⟨#[34]⟩ : ByteArray).data.toList (⟨#[92, 34]⟩ : ByteArray).data.toList = s.data.toList.flatMap (fun b => if b = 34 then [92, 34] else [b]) from repl_all 34 [92, 34] (by decide) _] at h
  exact h
set_option maxHeartbeats 1000000 in
set_option maxRecDepth 100000 in
theorem quote_calls (s : ByteArray) (m : Int) (w : World) (hs : s.size ≤ 1048576) (hm : w.cell? ⟨0, 0, none⟩ = some (.int .i64 m)) (hg : 0 < w.heap.size) :
    Calls Tryd.prog 84 #[.string s] w fun e w' => e = .returned (.string (quoteT s)) ∧ Below w.heap.size w w' := by
  have z1 := esc1_size s
  have z2 := esc2_size (esc1 s)
  have hq := quote_eq s
  have H1 := fun w hm => repl92 s m w (by omega) hm
  have H2 := fun w hm => repl34 (esc1 s) m w (by omega) hm
  generalize quoteT s = r at *
  generalize esc2 (esc1 s) = b at *
  generalize esc1 s = a at *
  have H1 := Lib.hid H1
  have H2 := Lib.hid H2
  have hq := Lib.hid hq
  go_enter Tryd.func84, Tryd.ntmps84
  go_wp2_with fail
  refine (H1.out _ (cell_below (B := w.heap.size) (by repeat (first | exact Below.refl _ _ | apply below_alloc | apply pw_below_drewN | apply below_drew1 | (refine Below.setCell ?_ (by first | (simp; done) | (simp; omega) | omega) _) )) hm hg)).mono ?_
  rintro e w1 ⟨rfl, hb1⟩
  have hz1 := hb1.size
  go_wp2_with fail
  refine (H2.out _ (cell_below (B := w.heap.size) (by repeat (first | exact Below.refl _ _ | apply below_alloc | apply pw_below_drewN | apply below_drew1 | (refine Below.setCell ?_ (by first | (simp; done) | (simp; omega) | omega) _) | (refine below_then ?_ (by first | (simp; done) | (simp; omega) | omega) hb1))) hm hg)).mono ?_
  rintro e w2 ⟨rfl, hb2⟩
  go_wp2_with fail
  go_ret
  exact ⟨by simp [hq.out], (by repeat (first | exact Below.refl _ _ | apply below_alloc | apply pw_below_drewN | apply below_drew1 | (refine Below.setCell ?_ (by first | (simp; done) | (simp; omega) | omega) _) | (refine below_then ?_ (by first | (simp; done) | (simp; omega) | omega) hb2) | (refine below_then ?_ (by first | (simp; done) | (simp; omega) | omega) hb1)))⟩
end Go.Proofs.YtpeenmbonhijmaaDoor.H
