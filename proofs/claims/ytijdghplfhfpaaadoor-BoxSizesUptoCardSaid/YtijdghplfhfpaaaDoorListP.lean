/- Lists of addresses: the reader's way through a text and the reference's way over its bits say the same. No program in sight. -/
import Derived.Test.YtijdghplfhfpaaaDoorSpanP
import Derived.Test.YtijdghplfhfpaaaDoorWhoP
import Derived.Test.YtijdghplfhfpaaaDoorKinds
namespace Go.Proofs.YtijdghplfhfpaaaDoor.H
set_option linter.unusedVariables false
set_option linter.unusedSimpArgs false
def blankB (c : Int) : Bool := decide (c = 32) || decide (c = 9)
def runB (c : Int) : Bool := atomB c || decide (c = 46)
/-- Behind something quoted, from a place in it on. -/
def qEnd (s : ByteArray) (i : Nat) : Option Nat :=
  if h : i < s.size then
    if s[i].toNat = 34 then some (i + 1)
    else if s[i].toNat = 92 then (if i + 1 < s.size then qEnd s (i + 2) else none)
    else qEnd s (i + 1)
  else none
termination_by s.size - i
theorem qEnd_gt (s : ByteArray) : ∀ n i k, s.size - i ≤ n → qEnd s i = some k → i < k ∧ k ≤ s.size := by
  intro n
  induction n with
  | zero => intro i k h1 h2; rw [qEnd, dif_neg (by omega)] at h2; cases h2
  | succ n ih =>
    intro i k h1 h2
    rw [qEnd] at h2
    split at h2
    · split at h2
      · cases h2; omega
      · split at h2
        · split at h2
          · have := ih _ _ (by omega) h2; omega
          · cases h2
        · have := ih _ _ (by omega) h2; omega
    · cases h2
section
variable (ok : ByteArray → ByteArray → Bool) (s : ByteArray)
/-- An address whose local part was read, up to a place. -/
def bareP (e : Nat) (loc : ByteArray) : Option (AAddress × Nat) :=
  if nx s e = 64 then
    if ok loc (s.extract (e + 1) (spanEnd runB s (e + 1))) then some (⟨loc, s.extract (e + 1) (spanEnd runB s (e + 1))⟩, spanEnd runB s (e + 1)) else none
  else none
def angP (j : Nat) : Option (AAddress × Nat) :=
  match bareP ok s (spanEnd runB s (j + 1)) (s.extract (j + 1) (spanEnd runB s (j + 1))) with
  | some (a, d) => if nx s d = 62 then some (a, d + 1) else none
  | none => none
/-- An address, perhaps with words ahead of it. -/
def addrP (i : Nat) (first : Bool) : Option (AAddress × Nat) :=
  if nx s (spanEnd blankB s i) = 34 then
    match qEnd s (spanEnd blankB s i + 1) with
    | some k => if i < k ∧ k ≤ s.size then addrP k false else none
    | none => none
  else if nx s (spanEnd blankB s i) = 60 then angP ok s (spanEnd blankB s i)
  else if first = true ∧ nx s (spanEnd runB s (spanEnd blankB s i)) = 64 then bareP ok s (spanEnd runB s (spanEnd blankB s i)) (s.extract (spanEnd blankB s i) (spanEnd runB s (spanEnd blankB s i)))
  else if spanEnd blankB s i < spanEnd runB s (spanEnd blankB s i) ∧ i < spanEnd runB s (spanEnd blankB s i) ∧ spanEnd runB s (spanEnd blankB s i) ≤ s.size then addrP (spanEnd runB s (spanEnd blankB s i)) false
  else none
termination_by s.size - i
decreasing_by all_goals omega
/-- The addresses of a list from a place on. -/
def listP (i : Nat) : Option (List AAddress) :=
  match addrP ok s i true with
  | some (a, j) =>
    if spanEnd blankB s j < s.size then
      if nx s (spanEnd blankB s j) = 44 ∧ i ≤ spanEnd blankB s j then (listP (spanEnd blankB s j + 1)).map (a :: ·) else none
    else some [a]
  | none => none
termination_by s.size - i
end
/-- A bit of a list. -/
abbrev Bit := ABit
def bitsP (s : ByteArray) (i : Nat) (ap : Bool) : Option (List Bit) :=
  if h : i < s.size then
    if blankB s[i].toNat then bitsP s (i + 1) true
    else if i < spanEnd runB s i ∧ spanEnd runB s i ≤ s.size then (bitsP s (spanEnd runB s i) false).map (⟨s.extract i (spanEnd runB s i), true, false, ap⟩ :: ·)
    else if s[i].toNat ≠ 34 then (bitsP s (i + 1) false).map (⟨s.extract i (i + 1), false, false, ap⟩ :: ·)
    else match qEnd s (i + 1) with
      | some k => if i < k ∧ k ≤ s.size then (bitsP s k false).map (⟨⟨#[]⟩, false, true, ap⟩ :: ·) else none
      | none => none
  else some []
termination_by s.size - i
def plainR (ok : ByteArray → ByteArray → Bool) : List Bit → Option (AAddress × List Bit)
  | b0 :: b1 :: b2 :: r => if b0.run = true ∧ b1.text = ⟨#[64]⟩ ∧ b2.run = true ∧ b1.apart = false ∧ b2.apart = false ∧ ok b0.text b2.text = true then some (⟨b0.text, b2.text⟩, r) else none
  | _ => none
def angleR (ok : ByteArray → ByteArray → Bool) : List Bit → Option (AAddress × List Bit)
  | [] => none
  | b :: r =>
    if b.run = true ∨ b.quoted = true then angleR ok r
    else if b.text = ⟨#[60]⟩ then
      match plainR ok r with
      | some (a, g :: r') => if (∀ c ∈ r.head?, c.apart = false) ∧ g.text = ⟨#[62]⟩ ∧ g.apart = false then some (a, r') else none
      | _ => none
    else none
def addrR (ok : ByteArray → ByteArray → Bool) (l : List Bit) : Option (AAddress × List Bit) :=
  match plainR ok l with
  | some x => some x
  | none => angleR ok l
def listR (ok : ByteArray → ByteArray → Bool) (l : List Bit) : Option (List AAddress) :=
  match addrR ok l with
  | some (a, []) => some [a]
  | some (a, b :: r) => if b.text = ⟨#[44]⟩ ∧ r.length < l.length then (listR ok r).map (a :: ·) else none
  | none => none
termination_by l.length
-- bytes of their kinds
theorem run_not : runB 32 = false ∧ runB 9 = false ∧ runB 34 = false ∧ runB 60 = false ∧ runB 62 = false ∧ runB 64 = false ∧ runB 44 = false ∧ runB 0 = false := by decide
theorem bits_end (s : ByteArray) (i : Nat) (ap : Bool) (h : ¬ i < s.size) : bitsP s i ap = some [] := by rw [bitsP, dif_neg h]
theorem bits_blank (s : ByteArray) (i : Nat) (ap : Bool) (h : i < s.size) (hb : blankB s[i].toNat = true) : bitsP s i ap = bitsP s (i + 1) true := by rw [bitsP, dif_pos h, if_pos hb]
theorem bits_run (s : ByteArray) (i : Nat) (ap : Bool) (h : i < spanEnd runB s i) (hs : i ≤ s.size) :
    bitsP s i ap = (bitsP s (spanEnd runB s i) false).map (⟨s.extract i (spanEnd runB s i), true, false, ap⟩ :: ·) := by
  have h2 := span_le runB s i hs
  obtain ⟨hi, hr⟩ := span_in runB s _ i rfl i (Nat.le_refl _) h
  have hb : ¬ blankB s[i].toNat = true := fun hb => by
    simp only [blankB, Bool.or_eq_true, decide_eq_true_eq] at hb
    rcases hb with hb | hb
    · rw [hb] at hr; exact absurd hr (by decide)
    · rw [hb] at hr; exact absurd hr (by decide)
  rw [bitsP, dif_pos hi, if_neg hb, if_pos ⟨h, h2⟩]
theorem bits_one (s : ByteArray) (i : Nat) (ap : Bool) (h : i < s.size) (hb : blankB s[i].toNat = false) (hr : runB s[i].toNat = false) (hq : s[i].toNat ≠ 34) :
    bitsP s i ap = (bitsP s (i + 1) false).map (⟨⟨#[s[i]]⟩, false, false, ap⟩ :: ·) := by
  rw [bitsP, dif_pos h, if_neg (by rw [hb]; decide), if_neg (by rw [spanEnd_no runB h hr]; omega), if_pos hq, ext_one h]
theorem bits_quoted (s : ByteArray) (i : Nat) (ap : Bool) (h : i < s.size) (hq : s[i].toNat = 34) :
    bitsP s i ap = (qEnd s (i + 1)).bind fun k => (bitsP s k false).map (⟨⟨#[]⟩, false, true, ap⟩ :: ·) := by
  have hr : runB s[i].toNat = false := by rw [hq]; decide
  rw [bitsP, dif_pos h, if_neg (by rw [hq]; decide), if_neg (by rw [spanEnd_no runB h hr]; omega), if_neg (by simpa using hq)]
  cases hk : qEnd s (i + 1) with
  | none => rfl
  | some k =>
    have := qEnd_gt s _ _ _ (Nat.le_refl _) hk
    simp only [Option.bind_some]
    rw [if_pos ⟨by omega, this.2⟩]
theorem bits_skip (s : ByteArray) : ∀ n i ap, s.size - i = n → i ≤ s.size → ∃ ap', bitsP s i ap = bitsP s (spanEnd blankB s i) ap' ∧ (spanEnd blankB s i = i → ap' = ap) ∧ (spanEnd blankB s i ≠ i → ap' = true) := by
  intro n
  induction n with
  | zero => intro i ap h1 h2; rw [spanEnd_end blankB (by omega)]; exact ⟨ap, rfl, fun _ => rfl, fun h => absurd rfl h⟩
  | succ n ih =>
    intro i ap h1 h2
    have hlt : i < s.size := by omega
    cases h : blankB s[i].toNat with
    | false => rw [spanEnd_no blankB hlt h]; exact ⟨ap, rfl, fun _ => rfl, fun h => absurd rfl h⟩
    | true =>
      obtain ⟨ap', h3, h4, h5⟩ := ih (i + 1) true (by omega) (by omega)
      have hge := span_ge blankB s (i + 1) (by omega)
      rw [spanEnd_yes blankB hlt h]
      refine ⟨ap', (bits_blank s i ap hlt h).trans h3, fun hh => by omega, fun _ => ?_⟩
      by_cases h6 : spanEnd blankB s (i + 1) = i + 1
      · exact h4 h6
      · exact h5 h6
/-- The first bit from a place on, where there is no blank: what is at the place. -/
theorem bits_cons (s : ByteArray) (i : Nat) (ap : Bool) (h : i < s.size) (hb : blankB s[i].toNat = false) :
    bitsP s i ap = none ∨ ∃ b r, bitsP s i ap = some (b :: r) ∧ b.apart = ap ∧ (∀ c : UInt8, runB c.toNat = false → c ≠ 34 → b.text = ⟨#[c]⟩ → s[i] = c) ∧ (b.run = true → runB s[i].toNat = true ∧ bitsP s (spanEnd runB s i) false = some r ∧ b.text = s.extract i (spanEnd runB s i)) := by
  cases hr : runB s[i].toNat with
  | true =>
    have hlt : i < spanEnd runB s i := by rw [spanEnd_yes runB h hr]; have := span_ge runB s (i + 1) (by omega); omega
    rw [bits_run s i ap hlt (by omega)]
    cases hx : bitsP s (spanEnd runB s i) false with
    | none => exact .inl rfl
    | some r =>
      refine .inr ⟨_, r, rfl, rfl, fun c hc _ he => ?_, fun _ => ⟨rfl, rfl, rfl⟩⟩
      obtain ⟨_, h2⟩ := ext_head (span_le runB s i (by omega)) hlt he
      rw [h2, hc] at hr; cases hr
  | false =>
    by_cases hq : s[i].toNat = 34
    · rw [bits_quoted s i ap h hq]
      cases hk : qEnd s (i + 1) with
      | none => exact .inl rfl
      | some k =>
        cases hx : bitsP s k false with
        | none => simp only [Option.bind_some, hx]; exact .inl rfl
        | some r =>
          simp only [Option.bind_some, hx]
          refine .inr ⟨_, r, rfl, rfl, fun c _ _ he => ?_, fun h => by cases h⟩
          have := congrArg ByteArray.size he
          cases this
    · rw [bits_one s i ap h hb hr hq]
      cases hx : bitsP s (i + 1) false with
      | none => exact .inl rfl
      | some r =>
        refine .inr ⟨_, r, rfl, rfl, fun c _ _ he => ?_, fun h => by cases h⟩
        have := congrArg (fun x : ByteArray => x.data.toList) he
        simpa using this
section
variable {ok : ByteArray → ByteArray → Bool} {s : ByteArray}
/-- An address without words. -/
theorem bare_some {j : Nat} {ap : Bool} {a : AAddress} {d : Nat} (hno : ∀ x, ok x ⟨#[]⟩ = false ∧ ok ⟨#[]⟩ x = false) (hj : j ≤ s.size) (h : bareP ok s (spanEnd runB s j) (s.extract j (spanEnd runB s j)) = some (a, d)) :
    j < d ∧ d ≤ s.size ∧ ∃ b0 b1 b2 : Bit, b0.apart = ap ∧ b0.run = true ∧ (∀ r, plainR ok (b0 :: b1 :: b2 :: r) = some (a, r)) ∧ bitsP s j ap = (bitsP s d false).map ([b0, b1, b2] ++ ·) := by
  have hr := run_not
  unfold bareP at h
  split at h
  · rename_i h64
    split at h
    · rename_i hok
      cases h
      have he := nx_lt (by rw [h64]; decide)
      rw [nx_in he] at h64
      have hle := span_ge runB s j hj
      have hd1 := span_ge runB s (spanEnd runB s j + 1) (by omega)
      have hd2 := span_le runB s (spanEnd runB s j + 1) (by omega)
      have hlt : j < spanEnd runB s j := by
        rcases Nat.lt_or_ge j (spanEnd runB s j) with h | h
        · exact h
        · rw [show spanEnd runB s j = j by omega] at hok
          rw [show s.extract j j = ⟨#[]⟩ by apply ByteArray.ext; simp] at hok
          rw [(hno _).2] at hok; cases hok
      have hlt2 : spanEnd runB s j + 1 < spanEnd runB s (spanEnd runB s j + 1) := by
        rcases Nat.lt_or_ge (spanEnd runB s j + 1) (spanEnd runB s (spanEnd runB s j + 1)) with h | h
        · exact h
        · rw [show spanEnd runB s (spanEnd runB s j + 1) = spanEnd runB s j + 1 by omega] at hok
          rw [show s.extract (spanEnd runB s j + 1) (spanEnd runB s j + 1) = ⟨#[]⟩ by apply ByteArray.ext; simp] at hok
          rw [(hno _).1] at hok; cases hok
      refine ⟨by omega, hd2, ⟨s.extract j (spanEnd runB s j), true, false, ap⟩, ⟨⟨#[64]⟩, false, false, false⟩, ⟨s.extract (spanEnd runB s j + 1) (spanEnd runB s (spanEnd runB s j + 1)), true, false, false⟩, rfl, rfl, ?_, ?_⟩
      · intro r
        simp only [plainR]
        rw [if_pos (by simp [hok])]
      · have hc : s[spanEnd runB s j] = 64 := by apply UInt8.toNat_inj.1; simpa using (by exact_mod_cast h64 : (s[spanEnd runB s j]).toNat = 64)
        have h1 : s[spanEnd runB s j].toNat = 64 := by rw [hc]; rfl
        rw [bits_run s j ap hlt hj, bits_one s _ false he (by rw [h1]; decide) (by rw [h1]; decide) (by rw [h1]; decide), bits_run s _ false hlt2 (by omega), hc]
        cases bitsP s (spanEnd runB s (spanEnd runB s j + 1)) false <;> rfl
    · cases h
  · cases h
theorem bits_apart {i : Nat} {b : Bit} {r : List Bit} (hi : i ≤ s.size) (h : bitsP s i false = some (b :: r)) (ha : b.apart = false) : ∃ hlt : i < s.size, blankB s[i].toNat = false := by
  rcases Nat.lt_or_ge i s.size with hlt | hge
  · refine ⟨hlt, ?_⟩
    cases hb : blankB s[i].toNat with
    | false => rfl
    | true =>
      exfalso
      obtain ⟨ap', h1, _, h3⟩ := bits_skip s _ i false rfl hi
      have hne : spanEnd blankB s i ≠ i := by rw [spanEnd_yes blankB hlt hb]; have := span_ge blankB s (i + 1) (by omega); omega
      obtain rfl := h3 hne
      rw [h1] at h
      have hle := span_le blankB s i hi
      rcases Nat.lt_or_ge (spanEnd blankB s i) s.size with h5 | h5
      · rcases bits_cons s _ true h5 (span_stop blankB s _ i rfl h5) with h6 | ⟨b', r', h6, h7, _⟩
        · rw [h6] at h; cases h
        · rw [h6] at h; cases h; rw [h7] at ha; cases ha
      · rw [bits_end s _ _ (by omega)] at h; cases h
  · rw [bits_end s _ _ (by omega)] at h; cases h
theorem toNat_of {c d : UInt8} (h : c = d) : c.toNat = d.toNat := by rw [h]
theorem plain_inv {j : Nat} {ap : Bool} {l r : List Bit} {a : AAddress} (hj : j ≤ s.size) (hb : ∀ h : j < s.size, blankB s[j].toNat = false) (hl : bitsP s j ap = some l) (h : plainR ok l = some (a, r)) :
    ∃ d, bareP ok s (spanEnd runB s j) (s.extract j (spanEnd runB s j)) = some (a, d) ∧ bitsP s d false = some r ∧ d ≤ s.size := by
  match l, h with
  | b0 :: b1 :: b2 :: r', h =>
    simp only [plainR] at h
    split at h
    · rename_i hc
      obtain ⟨h0, h1, h2, h3, h4, hok⟩ := hc
      cases h
      rcases Nat.lt_or_ge j s.size with hlt | hge
      · rcases bits_cons s j ap hlt (hb hlt) with h6 | ⟨b', r', h6, _, _, h7⟩
        · rw [h6] at hl; cases hl
        · rw [h6] at hl; cases hl
          obtain ⟨hr0, hbe, ht0⟩ := h7 h0
          have hle := span_le runB s j hj
          obtain ⟨hlt1, hb1⟩ := bits_apart hle hbe h3
          have hc1 : s[spanEnd runB s j] = 64 := by
            rcases bits_cons s _ false hlt1 hb1 with h6 | ⟨b', r', h6, _, h8, _⟩
            · rw [h6] at hbe; cases hbe
            · rw [h6] at hbe; cases hbe; exact h8 64 (by decide) (by decide) h1
          have hn1 := toNat_of hc1
          have hn1 : s[spanEnd runB s j].toNat = 64 := hn1
          rw [bits_one s _ false hlt1 hb1 (by rw [hn1]; decide) (by rw [hn1]; decide)] at hbe
          obtain ⟨l2, hl2, he2⟩ := Option.map_eq_some_iff.1 hbe
          cases he2
          obtain ⟨hlt2, hb2⟩ := bits_apart (by omega) hl2 h4
          rcases bits_cons s _ false hlt2 hb2 with h6 | ⟨b', r', h6, _, _, h8⟩
          · rw [h6] at hl2; cases hl2
          · rw [h6] at hl2; cases hl2
            obtain ⟨_, hbd, ht2⟩ := h8 h2
            refine ⟨spanEnd runB s (spanEnd runB s j + 1), ?_, hbd, span_le runB s _ (by omega)⟩
            unfold bareP
            rw [nx_in hlt1, hn1, if_pos (by rfl), ← ht0, ← ht2, if_pos hok]
      · rw [bits_end s _ _ (by omega)] at hl; cases hl
    · cases h
theorem plainR_len {l r : List Bit} {a : AAddress} (h : plainR ok l = some (a, r)) : r.length < l.length := by
  match l, h with
  | b0 :: b1 :: b2 :: r', h =>
    simp only [plainR] at h
    split at h
    · cases h; simp; omega
    · cases h
theorem angleR_len : ∀ (l r : List Bit) (a : AAddress), angleR ok l = some (a, r) → r.length < l.length
  | [], r, a, h => by cases h
  | b :: t, r, a, h => by
    rw [angleR] at h
    split at h
    · have := angleR_len t r a h; simp; omega
    · split at h
      · split at h
        · rename_i a' g r' hp
          split at h
          · cases h; have := plainR_len hp; simp at this ⊢; omega
          · cases h
        · cases h
      · cases h
theorem addrR_len {l r : List Bit} {a : AAddress} (h : addrR ok l = some (a, r)) : r.length < l.length := by
  unfold addrR at h
  split at h
  · rename_i x hx; cases h; exact plainR_len hx
  · exact angleR_len _ _ _ h
/-- What the two sides say of a place: the reader's answer o, the reference's way f over the bits. -/
def Agree (s : ByteArray) (i : Nat) (ap : Bool) (f : List Bit → Option (AAddress × List Bit)) (o : Option (AAddress × Nat)) : Prop :=
  match o with
  | some (a, j) => i < j ∧ j ≤ s.size ∧ ((bitsP s i ap = none ∧ bitsP s j false = none) ∨ ∃ l l', bitsP s i ap = some l ∧ bitsP s j false = some l' ∧ f l = some (a, l'))
  | none => ∀ l, bitsP s i ap = some l → f l = none
theorem agree_step {i k : Nat} {ap ap' : Bool} {f : List Bit → Option (AAddress × List Bit)} {o : Option (AAddress × Nat)} (b : Bit) (hik : i ≤ k) (h : bitsP s i ap = (bitsP s k ap').map (b :: ·)) (hf : ∀ l, f (b :: l) = f l) (H : Agree s k ap' f o) : Agree s i ap f o := by
  match o, H with
  | some (a, j), H =>
    obtain ⟨h1, h2, h3⟩ := H
    refine ⟨by omega, h2, ?_⟩
    rcases h3 with ⟨h4, h5⟩ | ⟨l, l', h4, h5, h6⟩
    · exact .inl ⟨by rw [h, h4]; rfl, h5⟩
    · exact .inr ⟨b :: l, l', by rw [h, h4]; rfl, h5, by rw [hf]; exact h6⟩
  | none, H =>
    intro l hl
    rw [h] at hl
    obtain ⟨l2, h2, rfl⟩ := Option.map_eq_some_iff.1 hl
    rw [hf]; exact H _ h2
theorem agree_same {i k : Nat} {ap ap' : Bool} {f : List Bit → Option (AAddress × List Bit)} {o : Option (AAddress × Nat)} (hik : i ≤ k) (h : bitsP s i ap = bitsP s k ap') (H : Agree s k ap' f o) : Agree s i ap f o := by
  match o, H with
  | some (a, j), H =>
    obtain ⟨h1, h2, h3⟩ := H
    exact ⟨by omega, h2, by rw [h]; exact h3⟩
  | none, H => intro l hl; exact H l (h ▸ hl)
theorem ang_agree {j : Nat} (ap : Bool) (hno : ∀ x, ok x ⟨#[]⟩ = false ∧ ok ⟨#[]⟩ x = false) (hj : j < s.size) (hc : s[j].toNat = 60) : Agree s j ap (angleR ok) (angP ok s j) := by
  have h1 : bitsP s j ap = (bitsP s (j + 1) false).map (⟨⟨#[60]⟩, false, false, ap⟩ :: ·) := by
    rw [bits_one s j ap hj (by rw [hc]; decide) (by rw [hc]; decide) (by rw [hc]; decide), show s[j] = 60 from UInt8.toNat_inj.1 hc]
  have hf : ∀ l, angleR ok (⟨⟨#[60]⟩, false, false, ap⟩ :: l) = match plainR ok l with
      | some (a, g :: r') => if (∀ c ∈ l.head?, c.apart = false) ∧ g.text = ⟨#[62]⟩ ∧ g.apart = false then some (a, r') else none
      | _ => none := fun l => by rw [angleR, if_neg (by simp), if_pos rfl]
  have hnone : angP ok s j = none → ∀ l, bitsP s j ap = some l → angleR ok l = none := by
    intro hn l hl
    rw [h1] at hl
    obtain ⟨l1, hl1, rfl⟩ := Option.map_eq_some_iff.1 hl
    rw [hf]
    split
    · rename_i a g r' hp
      split
      · rename_i hcond
        exfalso
        obtain ⟨hh, hg, hga⟩ := hcond
        have hb : ∀ h : j + 1 < s.size, blankB s[j + 1].toNat = false := by
          match l1, hp with
          | b0 :: l1', hp => exact fun _ => (bits_apart (by omega) hl1 (hh b0 (by simp))).2
        obtain ⟨d, hd, hbd, hds⟩ := plain_inv (by omega) hb hl1 hp
        obtain ⟨hlt, hbb⟩ := bits_apart hds hbd hga
        have hcd : s[d] = 62 := by
          rcases bits_cons s _ false hlt hbb with h6 | ⟨b', r'', h6, _, h8, _⟩
          · rw [h6] at hbd; cases hbd
          · rw [h6] at hbd; cases hbd; exact h8 62 (by decide) (by decide) hg
        unfold angP at hn
        rw [hd] at hn
        simp only at hn
        rw [if_pos (by rw [nx_in hlt, hcd]; rfl)] at hn
        cases hn
      · rfl
    · rfl
  cases ho : angP ok s j with
  | none => exact hnone ho
  | some x =>
    obtain ⟨a, j'⟩ := x
    unfold angP at ho
    split at ho
    · rename_i a' d hd
      split at ho
      · rename_i h62
        cases ho
        obtain ⟨g1, g2, b0, b1, b2, ha0, hr0, hp, hbb⟩ := bare_some (ap := false) hno (by omega) hd
        have hlt := nx_lt (s := s) (i := d) (by rw [h62]; decide)
        rw [nx_in hlt] at h62
        have h62' : s[d].toNat = 62 := by exact_mod_cast h62
        have h2 : bitsP s d false = (bitsP s (d + 1) false).map (⟨⟨#[62]⟩, false, false, false⟩ :: ·) := by
          rw [bits_one s d false hlt (by rw [h62']; decide) (by rw [h62']; decide) (by rw [h62']; decide), show s[d] = 62 from UInt8.toNat_inj.1 h62']
        refine ⟨by omega, by omega, ?_⟩
        rw [h1, hbb, h2]
        cases hx : bitsP s (d + 1) false with
        | none => exact .inl ⟨rfl, rfl⟩
        | some l' =>
          refine .inr ⟨_, l', rfl, rfl, ?_⟩
          rw [hf]
          simp only [List.cons_append, List.nil_append, hp]
          rw [if_pos ⟨by simpa using ha0, by trivial, by trivial⟩]
      · cases ho
    · cases ho
theorem angle_agree (hno : ∀ x, ok x ⟨#[]⟩ = false ∧ ok ⟨#[]⟩ x = false) : ∀ n i ap, s.size - i ≤ n → i ≤ s.size → Agree s i ap (angleR ok) (addrP ok s i false) := by
  intro n
  induction n with
  | zero =>
    intro i ap h1 h2
    have hne : ¬ i < s.size := by omega
    have e : addrP ok s i false = none := by
      rw [addrP]
      simp only [spanEnd_end blankB hne, nx_out hne, spanEnd_end runB hne]
      simp
    rw [e]
    intro l hl
    rw [bits_end s i ap hne] at hl
    cases hl; rfl
  | succ n ih =>
    intro i ap h1 h2
    obtain ⟨ap', hsk, _, _⟩ := bits_skip s _ i ap rfl h2
    have hge := span_ge blankB s i h2
    have hle := span_le blankB s i h2
    refine agree_same hge hsk ?_
    rw [addrP]
    generalize hj : spanEnd blankB s i = j at *
    rcases Nat.lt_or_ge j s.size with hlt | hge2
    · have hnb : blankB s[j].toNat = false := by subst hj; exact span_stop blankB s _ i rfl hlt
      rw [nx_in hlt]
      by_cases hq : s[j].toNat = 34
      · rw [if_pos (by omega)]
        have hb := bits_quoted s j ap' hlt hq
        cases hk : qEnd s (j + 1) with
        | none =>
          intro l hl
          rw [hb, hk] at hl; cases hl
        | some k =>
          have hgt := qEnd_gt s _ _ _ (Nat.le_refl _) hk
          simp only
          rw [if_pos ⟨by omega, hgt.2⟩]
          rw [hk] at hb
          simp only [Option.bind_some] at hb
          exact agree_step _ (by omega) hb (fun l => by rw [angleR, if_pos (.inr rfl)]) (ih k false (by omega) hgt.2)
      · rw [if_neg (by omega)]
        by_cases h60 : s[j].toNat = 60
        · rw [if_pos (by omega)]
          exact ang_agree ap' hno hlt h60
        · rw [if_neg (by omega), if_neg (by simp)]
          cases hr : runB s[j].toNat with
          | true =>
            have hje : j < spanEnd runB s j := by rw [spanEnd_yes runB hlt hr]; have := span_ge runB s (j + 1) (by omega); omega
            have hes := span_le runB s j hle
            rw [if_pos ⟨hje, by omega, hes⟩]
            exact agree_step _ (by omega) (bits_run s j ap' hje hle) (fun l => by rw [angleR, if_pos (.inl rfl)]) (ih _ false (by omega) hes)
          | false =>
            rw [if_neg (by rw [spanEnd_no runB hlt hr]; omega)]
            intro l hl
            rw [bits_one s j ap' hlt hnb hr hq] at hl
            obtain ⟨l1, hl1, rfl⟩ := Option.map_eq_some_iff.1 hl
            rw [angleR, if_neg (by simp), if_neg]
            intro he
            have := congrArg (fun x : ByteArray => x.data.toList) he
            have h6 : s[j] = 60 := by simpa using this
            exact h60 (by rw [h6]; rfl)
    · rw [nx_out (by omega), spanEnd_end runB (by omega)]
      rw [if_neg (by omega), if_neg (by omega), if_neg (by simp), if_neg (by omega)]
      intro l hl
      rw [bits_end s j ap' (by omega)] at hl
      cases hl; rfl
theorem addr_agree (hno : ∀ x, ok x ⟨#[]⟩ = false ∧ ok ⟨#[]⟩ x = false) (i : Nat) (ap : Bool) (h2 : i ≤ s.size) : Agree s i ap (addrR ok) (addrP ok s i true) := by
  have HA := fun ap => angle_agree (s := s) hno _ i ap (Nat.le_refl _) h2
  obtain ⟨ap', hsk, _, _⟩ := bits_skip s _ i ap rfl h2
  have hge := span_ge blankB s i h2
  have hle := span_le blankB s i h2
  have hnb : ∀ h : spanEnd blankB s i < s.size, blankB s[spanEnd blankB s i].toNat = false := fun h => span_stop blankB s _ i rfl h
  by_cases hcase : nx s (spanEnd blankB s i) ≠ 34 ∧ nx s (spanEnd blankB s i) ≠ 60 ∧ nx s (spanEnd runB s (spanEnd blankB s i)) = 64
  · obtain ⟨c1, c2, c3⟩ := hcase
    refine agree_same hge hsk ?_
    rw [addrP, if_neg c1, if_neg c2, if_pos ⟨rfl, c3⟩]
    generalize hj : spanEnd blankB s i = j at *
    cases hb : bareP ok s (spanEnd runB s j) (s.extract j (spanEnd runB s j)) with
    | some x =>
      obtain ⟨a, d⟩ := x
      obtain ⟨g1, g2, b0, b1, b2, ha0, hr0, hp, hbb⟩ := bare_some (ap := ap') hno hle hb
      refine ⟨g1, g2, ?_⟩
      rw [hbb]
      cases hx : bitsP s d false with
      | none => exact .inl ⟨rfl, rfl⟩
      | some l' =>
        refine .inr ⟨_, l', rfl, rfl, ?_⟩
        simp only [List.cons_append, List.nil_append, addrR, hp]
    | none =>
      intro l hl
      have hp : plainR ok l = none := by
        cases hp : plainR ok l with
        | none => rfl
        | some x =>
          obtain ⟨d, hd, _⟩ := plain_inv hle hnb hl (r := x.2) (a := x.1) hp
          rw [hb] at hd; cases hd
      unfold addrR
      rw [hp]
      simp only
      have helt := nx_lt (s := s) (i := spanEnd runB s j) (by rw [c3]; decide)
      have h64 : s[spanEnd runB s j].toNat = 64 := by rw [nx_in helt] at c3; exact_mod_cast c3
      have hone : ∀ ap l, bitsP s (spanEnd runB s j) ap = some l → angleR ok l = none := fun ap l hl => by
        rw [bits_one s _ ap helt (by rw [h64]; decide) (by rw [h64]; decide) (by rw [h64]; decide)] at hl
        obtain ⟨l1, hl1, rfl⟩ := Option.map_eq_some_iff.1 hl
        rw [angleR, if_neg (by simp), if_neg]
        intro he
        have := congrArg (fun x : ByteArray => x.data.toList) he
        have h6 : s[spanEnd runB s j] = 60 := by simpa using this
        rw [h6] at h64; exact absurd h64 (by decide)
      have hje := span_ge runB s j hle
      rcases Nat.lt_or_ge j (spanEnd runB s j) with hlt | hge3
      · rw [bits_run s j ap' hlt hle] at hl
        obtain ⟨l1, hl1, rfl⟩ := Option.map_eq_some_iff.1 hl
        rw [angleR, if_pos (.inl rfl)]
        exact hone _ _ hl1
      · rw [show spanEnd runB s j = j by omega] at hone
        exact hone _ _ hl
  · have hsame : addrP ok s i true = addrP ok s i false := by
      rw [addrP.eq_1 ok s i true, addrP.eq_1 ok s i false]
      by_cases c1 : nx s (spanEnd blankB s i) = 34
      · rw [if_pos c1, if_pos c1]
      · rw [if_neg c1, if_neg c1]
        by_cases c2 : nx s (spanEnd blankB s i) = 60
        · rw [if_pos c2, if_pos c2]
        · rw [if_neg c2, if_neg c2, if_neg (fun h => hcase ⟨c1, c2, h.2⟩), if_neg (c := false = true ∧ _) (by simp)]
    rw [hsame]
    have hplain : ∀ l, bitsP s i ap = some l → plainR ok l = none := fun l hl => by
      cases hp : plainR ok l with
      | none => rfl
      | some x =>
        rw [hsk] at hl
        obtain ⟨d, hd, _⟩ := plain_inv hle hnb hl (r := x.2) (a := x.1) hp
        exfalso
        have hd' := hd
        unfold bareP at hd
        split at hd
        · rename_i c3
          refine hcase ⟨fun c1 => ?_, fun c2 => ?_, c3⟩
          · have hlt := nx_lt (s := s) (i := spanEnd blankB s i) (by rw [c1]; decide)
            rw [nx_in hlt] at c1
            rw [spanEnd_no runB hlt (by rw [show (s[spanEnd blankB s i].toNat : Int) = 34 from c1]; decide), nx_in hlt, c1] at c3
            cases c3
          · have hlt := nx_lt (s := s) (i := spanEnd blankB s i) (by rw [c2]; decide)
            rw [nx_in hlt] at c2
            rw [spanEnd_no runB hlt (by rw [show (s[spanEnd blankB s i].toNat : Int) = 60 from c2]; decide), nx_in hlt, c2] at c3
            cases c3
        · cases hd
    have hA := HA ap
    generalize addrP ok s i false = o at *
    match o, hA with
    | some (a, j), hA =>
      obtain ⟨g1, g2, g3⟩ := hA
      refine ⟨g1, g2, ?_⟩
      rcases g3 with g3 | ⟨l, l', g3, g4, g5⟩
      · exact .inl g3
      · refine .inr ⟨l, l', g3, g4, ?_⟩
        unfold addrR
        rw [hplain l g3]
        exact g5
    | none, hA =>
      intro l hl
      unfold addrR
      rw [hplain l hl]
      exact hA l hl
theorem list_agree (hno : ∀ x, ok x ⟨#[]⟩ = false ∧ ok ⟨#[]⟩ x = false) : ∀ n i ap, s.size - i ≤ n → i ≤ s.size → listP ok s i = (bitsP s i ap).bind (listR ok) := by
  intro n
  induction n with
  | zero =>
    intro i ap h1 h2
    have hne : ¬ i < s.size := by omega
    have e : addrP ok s i true = none := by
      rw [addrP]
      simp only [spanEnd_end blankB hne, nx_out hne, spanEnd_end runB hne]
      simp
    rw [listP, e, bits_end s i ap hne]
    simp only [Option.bind_some]
    rw [listR]
    rfl
  | succ n ih =>
    intro i ap h1 h2
    have HA := addr_agree (s := s) hno i ap h2
    rw [listP]
    generalize addrP ok s i true = o at *
    match o, HA with
    | none, HA =>
      simp only
      cases hb : bitsP s i ap with
      | none => rfl
      | some l => simp only [Option.bind_some]; rw [listR, HA l hb]
    | some (a, j), HA =>
      obtain ⟨g1, g2, g3⟩ := HA
      simp only
      obtain ⟨ap', hsk, _, _⟩ := bits_skip s _ j false rfl g2
      have hge := span_ge blankB s j g2
      have hle := span_le blankB s j g2
      have hnb : ∀ h : spanEnd blankB s j < s.size, blankB s[spanEnd blankB s j].toNat = false := fun h => span_stop blankB s _ j rfl h
      rw [hsk] at g3
      generalize hk : spanEnd blankB s j = k at *
      by_cases hlt : k < s.size
      · rw [if_pos hlt, nx_in hlt]
        by_cases h44 : s[k].toNat = 44
        · rw [if_pos ⟨by omega, by omega⟩, ih (k + 1) false (by omega) (by omega)]
          have hb : bitsP s k ap' = (bitsP s (k + 1) false).map (⟨⟨#[44]⟩, false, false, ap'⟩ :: ·) := by
            rw [bits_one s k ap' hlt (hnb hlt) (by rw [h44]; decide) (by rw [h44]; decide), show s[k] = 44 from UInt8.toNat_inj.1 h44]
          rcases g3 with ⟨g4, g5⟩ | ⟨l, l', g4, g5, g6⟩
          · rw [hb] at g5
            rw [g4, Option.map_eq_none_iff.1 g5]; rfl
          · rw [hb] at g5
            obtain ⟨l2, hl2, rfl⟩ := Option.map_eq_some_iff.1 g5
            rw [g4, hl2]
            simp only [Option.bind_some]
            rw [listR.eq_1 ok l, g6]
            simp only
            have := addrR_len g6
            rw [if_pos ⟨trivial, by simp at this; omega⟩]
        · rw [if_neg (by omega)]
          rcases g3 with ⟨g4, g5⟩ | ⟨l, l', g4, g5, g6⟩
          · rw [g4]; rfl
          · rw [g4]
            simp only [Option.bind_some]
            rw [listR, g6]
            rcases bits_cons s k ap' hlt (hnb hlt) with h6 | ⟨b, r, h6, _, h7, _⟩
            · rw [h6] at g5; cases g5
            · rw [h6] at g5; cases g5
              simp only
              rw [if_neg]
              intro hc
              have := h7 44 (by decide) (by decide) hc.1
              exact h44 (by rw [this]; rfl)
      · rw [if_neg hlt]
        rw [bits_end s k ap' hlt] at g3
        rcases g3 with ⟨g4, g5⟩ | ⟨l, l', g4, g5, g6⟩
        · cases g5
        · cases g5
          rw [g4]
          simp only [Option.bind_some]
          rw [listR, g6]
/-- The reader and the reference say the same of a text. -/
theorem list_law (hno : ∀ x, ok x ⟨#[]⟩ = false ∧ ok ⟨#[]⟩ x = false) : listP ok s 0 = (bitsP s 0 false).bind (listR ok) := list_agree hno _ 0 false (Nat.le_refl _) (Nat.zero_le _)
end
end Go.Proofs.YtijdghplfhfpaaaDoor.H
