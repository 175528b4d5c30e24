/- States as arguments: how they are read. -/
import Derived.Test.YtijdghplfhfpaaaDoorOpensU
import Derived.Test.YtijdghplfhfpaaaDoorBoxG
namespace Go.Proofs.YtijdghplfhfpaaaDoor.H
open Go.RowKit Go.Proofs.YtijdghplfhfpaaaDoorW.PrintWords Go.ChangeShapes Go.WideShapes Go.Proofs.YtijdghplfhfpaaaDoor.U Go.Proofs.YtijdghplfhfpaaaDoor.UB
set_option linter.unusedVariables false
def okAEntry (x : AEntry) : Prop := (Lit.int .i64 x.kind).wf = true ∧ x.box.size ≤ bulkTop ∧ (Lit.int .i64 x.uid).wf = true ∧ (Lit.int .i64 x.flags).wf = true ∧ x.to_.size ≤ bulkTop ∧ x.text.size ≤ bulkTop
theorem opens_AEntry {n : Nat} : OpensN Tryd.prog n 40 kAEntry okAEntry := by
  intro H enc W base spare held cs x h hm
  obtain ⟨⟨a0, a1, a2, a3, a4, a5⟩, hk, ⟨h0_, h1_, h2_, h3_, h4_, h5_⟩⟩ := (opens_struct Tryd.underlying40 (len := 6) (by kernel_rfl) (fun _ _ => (opensF_cons rfl (by kernel_rfl) (opens_int Tryd.underlying3) (opensF_cons rfl (by kernel_rfl) (opens_string Tryd.underlying9) (opensF_cons rfl (by kernel_rfl) (opens_int Tryd.underlying3) (opensF_cons rfl (by kernel_rfl) (opens_int Tryd.underlying3) (opensF_cons rfl (by kernel_rfl) (opens_string Tryd.underlying9) (opensF_one rfl (by kernel_rfl) (opens_string Tryd.underlying9))))))))) enc W base spare held cs x h hm
  obtain ⟨_, _, rfl, rfl, ⟨_, _, rfl, rfl, ⟨_, _, rfl, rfl, ⟨_, _, rfl, rfl, ⟨_, _, rfl, rfl, rfl⟩⟩⟩⟩⟩ := hk
  exact ⟨⟨a0, a1, a2, a3, a4, a5⟩, rfl, h0_, h1_, h2_, h3_, h4_, h5_⟩
def okAMail (x : AMail) : Prop := (Lit.int .i64 x.uid).wf = true ∧ (Lit.int .i64 x.flags).wf = true ∧ x.text.size ≤ bulkTop
theorem opens_AMail {n : Nat} : OpensN Tryd.prog n 84 kAMail okAMail := by
  intro H enc W base spare held cs x h hm
  obtain ⟨⟨a0, a1, a2⟩, hk, ⟨h0_, h1_, h2_⟩⟩ := (opens_struct Tryd.underlying84 (len := 3) (by kernel_rfl) (fun _ _ => (opensF_cons rfl (by kernel_rfl) (opens_int Tryd.underlying3) (opensF_cons rfl (by kernel_rfl) (opens_int Tryd.underlying3) (opensF_one rfl (by kernel_rfl) (opens_string Tryd.underlying9)))))) enc W base spare held cs x h hm
  obtain ⟨_, _, rfl, rfl, ⟨_, _, rfl, rfl, rfl⟩⟩ := hk
  exact ⟨⟨a0, a1, a2⟩, rfl, h0_, h1_, h2_⟩
def okBoxIn (b : ABox) : Prop := b.1.size ≤ bulkTop ∧ (Lit.int .i64 b.2.1).wf = true ∧ (b.2.2.length ≤ bulkTop ∧ ∀ m ∈ b.2.2, okAMail m)
theorem opens_box {n : Nat} : OpensN Tryd.prog n 77 kBox okBoxIn :=
  opens_struct Tryd.underlying77 (len := 3) (by kernel_rfl) (fun m _ => opensF_cons rfl (by kernel_rfl) (opens_string Tryd.underlying9)
    (opensF_cons rfl (by kernel_rfl) (opens_int Tryd.underlying3) (opensF_one rfl (by kernel_rfl) (opens_slice Tryd.underlying75 (by kernel_rfl) (fun _ _ => opens_AMail)))))
def kState : Kd (List ABox × List AEntry) := Kd.pair (Kd.slice 77 kBox) (Kd.slice 40 kAEntry)
def okStateIn (s : List ABox × List AEntry) : Prop := (s.1.length ≤ bulkTop ∧ ∀ b ∈ s.1, okBoxIn b) ∧ (s.2.length ≤ bulkTop ∧ ∀ x ∈ s.2, okAEntry x)
theorem opens_state {n : Nat} : OpensN Tryd.prog n 25 kState okStateIn :=
  opens_struct Tryd.underlying25 (len := 2) (by kernel_rfl) (fun m _ => opensF_cons rfl (by kernel_rfl) (opens_slice Tryd.underlying22 (by kernel_rfl) (fun _ _ => opens_box))
    (opensF_one rfl (by kernel_rfl) (opens_slice Tryd.underlying23 (by kernel_rfl) (fun _ _ => opens_AEntry))))
theorem okSt_of {s : List ABox × List AEntry} (h : okStateIn s) : okSt s.1 s.2 := ⟨fun b hb => (h.1.2 b hb).1, fun x hx => ⟨(h.2.2 x hx).2.1, (h.2.2 x hx).2.2.2.2.1, (h.2.2 x hx).2.2.2.2.2⟩⟩
end Go.Proofs.YtijdghplfhfpaaaDoor.H
