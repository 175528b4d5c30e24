/- Letters parsed: a row of fields that the call owns: an element's value read and written. -/
import Derived.Test.YtpeenmbonhijmaaDoorLpA
import Derived.Test.YtpeenmbonhijmaaDoorBlk
namespace Go.Proofs.YtpeenmbonhijmaaDoor.H
open Go.RowKit Go.Proofs.YtpeenmbonhijmaaDoorW.PrintWords Go.Proofs.YtpeenmbonhijmaaDoorW.PrintLast Go.Proofs.YtpeenmbonhijmaaDoorW.PrintMore Go.Proofs.YtpeenmbonhijmaaDoor.U
set_option linter.unusedVariables false
set_option linter.unusedSimpArgs false
section
variable {e : Nat} {W : World} {base : Nat} {ok : Nat → Prop} {l : List AField}
theorem fields_at {v : Value} (h : Kd.R kAField e W base ok v l) (hl : 0 < l.length) : ∃ g cap, v = .slice (some ⟨g, 0, none⟩) l.length cap ∧ base ≤ g ∧ g < W.heap.size := by
  obtain ⟨A, c, rfl⟩ := Kd.R_slice h
  obtain ⟨inner, ho⟩ := Kd.R_own h
  rcases ho.2 with ⟨hv, _⟩ | ⟨g, cap, cur, hv, hg, hh, _⟩
  · injection hv with _ h2 _
    omega
  · injection hv with h1 h2 h3
    subst h1
    refine ⟨g, c, rfl, hg, ?_⟩
    rcases Nat.lt_or_ge g W.heap.size with h | h
    · exact h
    · rw [Array.getElem?_eq_none h] at hh; cases hh
theorem fields_cells {g n cap : Nat} (h : Kd.R kAField e W base ok (.slice (some ⟨g, 0, none⟩) n cap) l) (k : Nat) (hk : k < l.length) :
    W.cell? ⟨g, k * 2, none⟩ = some (.string l[k].name) ∧ W.cell? ⟨g, k * 2 + 1, none⟩ = some (.string l[k].value) ∧ W.frozen? ⟨g, k * 2, none⟩ = false ∧ W.frozen? ⟨g, k * 2 + 1, none⟩ = false := by
  have hn : n = l.length := (Kd.R_reads' h).1
  obtain ⟨c, _, hM, hc, hf⟩ := Kd.R_elem h ⟨⟨#[]⟩, ⟨#[]⟩⟩ (k : Int) (by omega) (by omega)
  have hg : l.getD k ⟨⟨#[]⟩, ⟨#[]⟩⟩ = l[k] := by simp [List.getD_eq_getElem?_getD, hk]
  rw [Int.toNat_natCast, hg] at hM
  have hM' : c = [.string l[k].name, .string l[k].value] := hM
  subst hM'
  have h0 := hc 0 _ rfl
  have h1 := hc 1 _ rfl
  have f0 := hf 0
  have f1 := hf 1
  rw [Int.toNat_natCast] at h0 h1 f0 f1
  exact ⟨h0, h1, f0, f1⟩
theorem fields_set {g n cap : Nat} (h : Kd.R kAField e W base ok (.slice (some ⟨g, 0, none⟩) n cap) l) (k : Nat) (hk : k < l.length) (x : ByteArray) :
    Kd.R kAField e (W.setCell ⟨g, k * 2 + 1, none⟩ (.string x)) base ok (.slice (some ⟨g, 0, none⟩) n cap) (l.set k ⟨l[k].name, x⟩) ∧ W.grownBy (W.setCell ⟨g, k * 2 + 1, none⟩ (.string x)) (some g) := by
  have hn : n = l.length := (Kd.R_reads' h).1
  obtain ⟨h0, h1, _, _⟩ := fields_cells h k hk
  have := Kd.R_seg (c := [.string l[k].name, .string l[k].value]) (seg := [.string x]) (j := 1) (x' := ⟨l[k].name, x⟩) (okp := fun _ => False) h (k : Int) (by omega) (by omega) rfl (fun j u hu => by
      match j, hu with
      | 0, hu => obtain rfl : Value.string l[k].name = u := by simpa using hu
                 rw [Int.toNat_natCast]; exact h0
      | 1, hu => obtain rfl : Value.string l[k].value = u := by simpa using hu
                 rw [Int.toNat_natCast]; exact h1
      | j + 2, hu => simp at hu) (Nat.le_refl _) rfl (fun _ h => h.elim)
  rw [Int.toNat_natCast] at this
  exact this
end
end Go.Proofs.YtpeenmbonhijmaaDoor.H
