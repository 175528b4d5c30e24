/- The law RuleNames answers true at every string: rule.Name and the reference's BoxName agree. Conditions: none beside the reach of a string. -/
import Derived.Test.YtioemcfadniokaaPRuleNamesx1
namespace Go.Proofs.Ytioemcfadniokaa.Pure
open Go.RowKit Go.Proofs.Ytioemcfadniokaa.PRuleNames Go.Proofs.YtioemcfadniokaaW.PrintWords Go.Proofs.YtioemcfadniokaaW.PrintLast

theorem wrap_small {i : Int} (h0 : 0 ≤ i) (h : i ≤ 140737488351232) : wrap64 (i + 1) = i + 1 := by
  unfold wrap64
  omega

theorem wrap_byte (s : ByteArray) (i : Int) : wrap64 (bt s i) = bt s i := by
  have := bt_range s i
  unfold wrap64
  omega

theorem loops_agree (s : ByteArray) (hn : s.size ≤ 140737488351232) (d : Nat) : ∀ (k : Nat) (i : Int), 0 ≤ i → i ≤ s.size → (s.size : Int) - i = d → d < k →
    ∃ r, rule_Name.l0 k s (s.size : Int) i = some r ∧ postroomref_BoxName.l0 k s i = some r := by
  induction d with
  | zero =>
    intro k i h0 h1 hd hk
    obtain ⟨k, rfl⟩ : ∃ m, k = m + 1 := ⟨k - 1, by omega⟩
    refine ⟨0, ?_, ?_⟩
    · simp only [rule_Name.l0]; rw [if_neg (by omega)]
    · simp only [postroomref_BoxName.l0]; rw [if_neg (by omega)]
  | succ d ih =>
    intro k i h0 h1 hd hk
    obtain ⟨k, rfl⟩ : ∃ m, k = m + 1 := ⟨k - 1, by omega⟩
    have hlt : i < (s.size : Int) := by omega
    have hw := wrap_small h0 (show i ≤ 140737488351232 by omega)
    obtain ⟨r, hr1, hr2⟩ := ih k (i + 1) (by omega) (by omega) (by omega) (by omega)
    simp only [rule_Name.l0, postroomref_BoxName.l0, postroomref_In.f, wrap_byte, hw]
    rw [if_pos hlt, if_pos h0, if_pos hlt, if_pos hlt, if_pos h0]
    by_cases a : bt s i < 33
    · rw [if_pos a, if_neg (show ¬ bt s i ≥ 33 by omega)]
      exact ⟨3, rfl, rfl⟩
    · rw [if_neg a, if_pos (show bt s i ≥ 33 by omega)]
      by_cases b : bt s i > 126
      · rw [if_pos b]
        refine ⟨3, rfl, ?_⟩
        simp; omega
      · rw [if_neg b]
        refine ⟨r, hr1, ?_⟩
        have : bt s i ≤ 126 := by omega
        simp [this, hr2]

theorem RuleNames : postroomlaw_RuleNames.Pure := by
  intro s hn
  obtain ⟨r, h1, h2⟩ := loops_agree s hn s.size (s.size + 1) 0 (by omega) (by omega) (by omega) (by omega)
  refine ⟨s.size + 2, ?_⟩
  have h2' := (postroomref_BoxName.mono_l (s.size + 1)) s 0 _ h2
  unfold postroomlaw_RuleNames.f rule_Name.f postroomref_BoxName.f postroomref_In.f
  simp only [rule_Name.j0, h1]
  by_cases a : (s.size : Int) < 1
  · rw [if_pos a, if_neg (show ¬ (s.size : Int) ≥ 1 by omega)]; simp
  · rw [if_neg a, if_pos (show (s.size : Int) ≥ 1 by omega)]
    by_cases b : (s.size : Int) > 12
    · have b' : decide ((s.size : Int) ≤ 12) = false := decide_eq_false (by omega)
      have b'' : decide ((s.size : Int) > 12) = true := decide_eq_true b
      simp only [b', b'', Option.bind_some, if_true]
      rfl
    · have b' : (s.size : Int) ≤ 12 := by omega
      simp only [b', decide_true, Option.bind_some, if_true, h2']
      have b'' : decide ((s.size : Int) > 12) = false := decide_eq_false b
      simp [b'']

end Go.Proofs.Ytioemcfadniokaa.Pure
