/- Boxes: what an entry does to a state, in plain words; what stays true. -/
import Derived.Test.YtijdghplfhfpaaaDoorBoxG
namespace Go.Proofs.YtijdghplfhfpaaaDoor.H
open Go.RowKit Go.Proofs.YtijdghplfhfpaaaDoorW.PrintWords Go.Proofs.YtijdghplfhfpaaaDoorW.PrintLast Go.Proofs.YtijdghplfhfpaaaDoorW.PrintMore Go.Proofs.YtijdghplfhfpaaaDoor.U
set_option linter.unusedVariables false
set_option linter.unusedSimpArgs false
/-- Where the first mail with a uid stands; -1: there is none. -/
def findU (u : Int) : List AMail → Int → Int
  | [], _ => -1
  | m :: l, k => if m.uid = u then k else findU u l (k + 1)
def keepM (m : AMail) : Bool := decide (m.flags / 8 % 2 = 0)
def addV (bs : List ABox) (i : Nat) (fl : Int) (tx : ByteArray) : Int × List ABox :=
  match bs[i]? with
  | none => (5, bs)
  | some b => if 30 ≤ b.2.2.length ∨ 1048576 < b.2.1 ∨ 6000 < stSize bs + tx.size then (5, bs) else (0, bs.set i (b.1, b.2.1 + 1, b.2.2 ++ [⟨b.2.1, fl, tx⟩]))
def mailsAt (bs : List ABox) (i : Nat) : List AMail := match bs[i]? with | none => [] | some b => b.2.2
def putMails (bs : List ABox) (i : Nat) (l : List AMail) : List ABox := match bs[i]? with | none => bs | some b => bs.set i (b.1, b.2.1, l)
def flagsAt (l : List AMail) (k : Nat) (f : Int) : List AMail := match l[k]? with | none => l | some m => l.set k ⟨m.uid, f, m.text⟩
def copyV (bs : List ABox) (l : List AMail) (k : Nat) (z : Int) : Int × List ABox :=
  if z < 0 then (7, bs) else match l[k]? with | none => (7, bs) | some m => addV bs z.toNat m.flags m.text
def mailV (bs : List ABox) (i : Nat) (x : AEntry) : Int × List ABox :=
  if x.kind = 2 then addV bs i x.flags x.text
  else if x.kind = 4 then (0, putMails bs i ((mailsAt bs i).filter keepM))
  else if findU x.uid (mailsAt bs i) 0 < 0 then (7, bs)
  else if x.kind = 3 then (0, putMails bs i (flagsAt (mailsAt bs i) (findU x.uid (mailsAt bs i) 0).toNat x.flags))
  else copyV bs (mailsAt bs i) (findU x.uid (mailsAt bs i) 0).toNat (findG x.to_ bs 0)
def entV (bs : List ABox) (es : List AEntry) (x : AEntry) : Int × List ABox × List AEntry :=
  if x.kind = 6 then (if 20 ≤ es.length then (5, bs, es) else (0, bs, es ++ [x]))
  else if x.kind = 1 then (if 0 ≤ findG x.box bs 0 then (10, bs, es) else if 5 ≤ bs.length then (5, bs, es) else (0, bs ++ [(x.box, 1, [])], es))
  else if findG x.box bs 0 < 0 then (7, bs, es)
  else ((mailV bs (findG x.box bs 0).toNat x).1, (mailV bs (findG x.box bs 0).toNat x).2, es)
def foldE : List ABox → List AEntry → List AEntry → Int × List ABox × List AEntry
  | bs, es, [] => (0, bs, es)
  | bs, es, x :: l => if entryFault x ≠ 0 then (entryFault x, [], []) else if (entV bs es x).1 ≠ 0 then ((entV bs es x).1, [], []) else foldE (entV bs es x).2.1 (entV bs es x).2.2 l
def allV (bs : List ABox) (es l : List AEntry) : Int × List ABox × List AEntry :=
  if stFault bs es ≠ 0 then (stFault bs es, [], []) else if 10 < l.length then (1, [], []) else foldE bs es l
/-- What may be, of a box: what the steps want. -/
def GoodB (b : ABox) : Prop := b.1.size ≤ 1048576 ∧ 1 ≤ b.2.1 ∧ b.2.1 ≤ 1048577 ∧ b.2.2.length ≤ 30 ∧ mailsOk b.2.1 0 b.2.2 = true
def InvS (bs : List ABox) (es : List AEntry) : Prop := bs.length ≤ 5 ∧ es.length ≤ 20 ∧ ∀ b ∈ bs, GoodB b
theorem mails_cons {nx last : Int} {m : AMail} {l : List AMail} : mailsOk nx last (m :: l) = true ↔ ¬ mailBad nx last m ∧ mailsOk nx m.uid l = true := by
  rw [mailsOk]
  by_cases h : mailBad nx last m
  · rw [if_pos h]; exact ⟨fun h2 => absurd h2 (by decide), fun h2 => absurd h h2.1⟩
  · rw [if_neg h]; exact ⟨fun h2 => ⟨h, h2⟩, fun h2 => h2.2⟩
theorem not_bad {nx last : Int} {m : AMail} : ¬ mailBad nx last m ↔ last < m.uid ∧ m.uid < nx ∧ 0 ≤ m.flags ∧ m.flags ≤ 31 ∧ m.text.size ≤ 2000 := by
  unfold mailBad
  constructor
  · intro h
    refine ⟨?_, ?_, ?_, ?_, ?_⟩
    · exact Int.lt_of_not_ge fun h2 => h (.inl h2)
    · exact Int.lt_of_not_ge fun h2 => h (.inr (.inl h2))
    · exact Int.le_of_not_gt fun h2 => h (.inr (.inr (.inl h2)))
    · exact Int.le_of_not_gt fun h2 => h (.inr (.inr (.inr (.inl h2))))
    · exact Nat.le_of_not_gt fun h2 => h (.inr (.inr (.inr (.inr h2))))
  · rintro ⟨h1, h2, h3, h4, h5⟩ h
    rcases h with h | h | h | h | h <;> omega
theorem mails_snoc {nx fl : Int} {tx : ByteArray} (h3 : 0 ≤ fl) (h4 : fl ≤ 31) (h5 : tx.size ≤ 2000) : ∀ (l : List AMail) (last : Int), last < nx → mailsOk nx last l = true → mailsOk (nx + 1) last (l ++ [⟨nx, fl, tx⟩]) = true
  | [], last, hl, _ => by
    rw [List.nil_append, mails_cons, not_bad]
    exact ⟨⟨hl, by show nx < nx + 1; omega, h3, h4, h5⟩, rfl⟩
  | m :: l, last, hl, h => by
    rw [mails_cons, not_bad] at h
    rw [List.cons_append, mails_cons, not_bad]
    obtain ⟨⟨a1, a2, a3, a4, a5⟩, h⟩ := h
    exact ⟨⟨a1, by omega, a3, a4, a5⟩, mails_snoc h3 h4 h5 l m.uid a2 h⟩
theorem mails_filter {nx : Int} {p : AMail → Bool} : ∀ (l : List AMail) (last last' : Int), last' ≤ last → mailsOk nx last l = true → mailsOk nx last' (l.filter p) = true
  | [], _, _, _, _ => rfl
  | m :: l, last, last', hl, h => by
    rw [mails_cons, not_bad] at h
    obtain ⟨⟨a1, a2, a3, a4, a5⟩, h⟩ := h
    by_cases hp : p m = true
    · rw [List.filter_cons_of_pos hp, mails_cons, not_bad]
      exact ⟨⟨by omega, a2, a3, a4, a5⟩, mails_filter l m.uid m.uid (Int.le_refl _) h⟩
    · rw [List.filter_cons_of_neg hp]
      exact mails_filter l m.uid last' (by omega) h
theorem mails_flags {nx f : Int} (h0 : 0 ≤ f) (h1 : f ≤ 31) : ∀ (l : List AMail) (last : Int) (k : Nat), mailsOk nx last l = true → mailsOk nx last (flagsAt l k f) = true
  | [], _, _, _ => rfl
  | m :: l, last, 0, h => by
    rw [mails_cons, not_bad] at h
    obtain ⟨⟨a1, a2, a3, a4, a5⟩, h⟩ := h
    show mailsOk nx last (⟨m.uid, f, m.text⟩ :: l) = true
    rw [mails_cons, not_bad]
    exact ⟨⟨a1, a2, h0, h1, a5⟩, h⟩
  | m :: l, last, k + 1, h => by
    rw [mails_cons] at h
    have ih := mails_flags h0 h1 l m.uid k h.2
    unfold flagsAt at ih ⊢
    rw [List.getElem?_cons_succ]
    cases hk : l[k]? with
    | none => exact mails_cons.2 h
    | some z =>
      rw [hk] at ih
      show mailsOk nx last ((m :: l).set (k + 1) _) = true
      rw [List.set_cons_succ, mails_cons]
      exact ⟨h.1, ih⟩
theorem mails_mem {nx : Int} : ∀ (l : List AMail) (last : Int), mailsOk nx last l = true → ∀ m ∈ l, last < m.uid ∧ m.uid < nx ∧ 0 ≤ m.flags ∧ m.flags ≤ 31 ∧ m.text.size ≤ 2000
  | [], _, _, _, hm => by cases hm
  | m :: l, last, h, z, hz => by
    rw [mails_cons, not_bad] at h
    obtain ⟨⟨a1, a2, a3, a4, a5⟩, h⟩ := h
    rcases List.mem_cons.1 hz with rfl | hz
    · exact ⟨a1, a2, a3, a4, a5⟩
    · obtain ⟨b1, b2⟩ := mails_mem l m.uid h z hz
      exact ⟨by omega, b2⟩
theorem flagsAt_length (l : List AMail) (k : Nat) (f : Int) : (flagsAt l k f).length = l.length := by
  unfold flagsAt; split <;> simp
theorem good_add {b : ABox} {fl : Int} {tx : ByteArray} (h : GoodB b) (h1 : ¬ 30 ≤ b.2.2.length) (h2 : ¬ 1048576 < b.2.1) (h3 : 0 ≤ fl) (h4 : fl ≤ 31) (h5 : tx.size ≤ 2000) : GoodB (b.1, b.2.1 + 1, b.2.2 ++ [⟨b.2.1, fl, tx⟩]) := by
  obtain ⟨a1, a2, a3, a4, a5⟩ := h
  refine ⟨a1, by show 1 ≤ b.2.1 + 1; omega, by show b.2.1 + 1 ≤ 1048577; omega, by show (b.2.2 ++ [_]).length ≤ 30; simp; omega, ?_⟩
  exact mails_snoc h3 h4 h5 b.2.2 0 (by omega) a5
theorem inv_set {bs : List ABox} {i : Nat} {b : ABox} (h : ∀ b ∈ bs, GoodB b) (hb : GoodB b) : ∀ z ∈ bs.set i b, GoodB z := fun z hz => by
  rcases List.mem_or_eq_of_mem_set hz with h1 | rfl
  · exact h z h1
  · exact hb
theorem inv_addV {bs : List ABox} {i : Nat} {fl : Int} {tx : ByteArray} (h : ∀ b ∈ bs, GoodB b) (h3 : 0 ≤ fl) (h4 : fl ≤ 31) (h5 : tx.size ≤ 2000) : (addV bs i fl tx).2.length = bs.length ∧ ∀ b ∈ (addV bs i fl tx).2, GoodB b := by
  unfold addV
  split
  · exact ⟨rfl, h⟩
  · rename_i b hb
    split
    · exact ⟨rfl, h⟩
    · rename_i hn
      exact ⟨List.length_set, inv_set h (good_add (h b (List.mem_of_getElem? hb)) (fun h1 => hn (.inl h1)) (fun h1 => hn (.inr (.inl h1))) h3 h4 h5)⟩
theorem inv_put {bs : List ABox} {i : Nat} {l : List AMail} (h : ∀ b ∈ bs, GoodB b) (hl : ∀ b, bs[i]? = some b → l.length ≤ 30 ∧ mailsOk b.2.1 0 l = true) : (putMails bs i l).length = bs.length ∧ ∀ b ∈ putMails bs i l, GoodB b := by
  unfold putMails
  split
  · exact ⟨rfl, h⟩
  · rename_i b hb
    obtain ⟨a1, a2, a3, a4, a5⟩ := h b (List.mem_of_getElem? hb)
    exact ⟨List.length_set, inv_set h ⟨a1, a2, a3, (hl b hb).1, (hl b hb).2⟩⟩
theorem inv_mailV {bs : List ABox} {i : Nat} {x : AEntry} (h : ∀ b ∈ bs, GoodB b) (h3 : 0 ≤ x.flags) (h4 : x.flags ≤ 31) (h5 : x.text.size ≤ 2000) : (mailV bs i x).2.length = bs.length ∧ ∀ b ∈ (mailV bs i x).2, GoodB b := by
  have hat : ∀ b, bs[i]? = some b → mailsAt bs i = b.2.2 := fun b hb => by unfold mailsAt; rw [hb]
  unfold mailV
  split
  · exact inv_addV h h3 h4 h5
  · split
    · refine inv_put h fun b hb => ?_
      obtain ⟨a1, a2, a3, a4, a5⟩ := h b (List.mem_of_getElem? hb)
      rw [hat b hb]
      exact ⟨Nat.le_trans (List.length_filter_le _ _) a4, mails_filter _ _ _ (Int.le_refl _) a5⟩
    · split
      · exact ⟨rfl, h⟩
      · split
        · refine inv_put h fun b hb => ?_
          obtain ⟨a1, a2, a3, a4, a5⟩ := h b (List.mem_of_getElem? hb)
          rw [hat b hb]
          exact ⟨by rw [flagsAt_length]; exact a4, mails_flags h3 h4 _ _ _ a5⟩
        · unfold copyV
          split
          · exact ⟨rfl, h⟩
          · split
            · exact ⟨rfl, h⟩
            · rename_i m hm
              have hm2 : m ∈ mailsAt bs i := List.mem_of_getElem? hm
              cases hb : bs[i]? with
              | none => unfold mailsAt at hm2; rw [hb] at hm2; cases hm2
              | some b =>
                rw [hat b hb] at hm2
                obtain ⟨a1, a2, a3, a4, a5⟩ := h b (List.mem_of_getElem? hb)
                obtain ⟨c1, c2, c3, c4, c5⟩ := mails_mem _ _ a5 m hm2
                exact inv_addV h c3 c4 c5
theorem ef_ok {x : AEntry} (h : entryFault x = 0) : 1 ≤ x.kind ∧ x.kind ≤ 6 ∧ 0 ≤ x.flags ∧ x.flags ≤ 31 ∧ x.text.size ≤ 2000 ∧ (x.kind ≠ 6 → x.box.size ≤ 12) := by
  by_cases h1 : x.kind < 1 ∨ 6 < x.kind
  · rw [ef_kind h1] at h; cases h
  · cases h2 : eqbAEntry x (bareE x) with
    | false => rw [ef_form h1 h2] at h; cases h
    | true =>
      by_cases h3 : x.flags < 0 ∨ 31 < x.flags ∨ x.uid < 0 ∨ 1048576 < x.uid
      · rw [ef_range h1 h2 h3] at h; cases h
      · by_cases h4 : 2000 < x.text.size
        · rw [ef_size h1 h2 h3 h4] at h; cases h
        · refine ⟨by omega, by omega, by omega, by omega, by omega, fun h6 => ?_⟩
          rw [ef_tail h1 h2 h3 h4, if_neg h6] at h
          have hn : nameFault x.box = 0 := by
            unfold nameTail at h
            by_cases hn : nameFault x.box = 0
            · exact hn
            · exfalso
              first
                | (rw [if_neg hn] at h; exact hn h)
                | (rw [if_pos hn] at h; exact hn h)
                | (split at h <;> first | exact hn h | (rename_i hh; exact hn hh) | simp_all)
          by_cases hs : x.box.size < 1 ∨ 12 < x.box.size
          · rw [nf_one hs] at hn; cases hn
          · omega
theorem inv_ent {bs : List ABox} {es : List AEntry} {x : AEntry} (h : InvS bs es) (hx : entryFault x = 0) : InvS (entV bs es x).2.1 (entV bs es x).2.2 := by
  obtain ⟨i1, i2, i3⟩ := h
  obtain ⟨x1, x2, x3, x4, x5, x6⟩ := ef_ok hx
  unfold entV
  split
  · split
    · exact ⟨i1, i2, i3⟩
    · exact ⟨i1, by show (es ++ [x]).length ≤ 20; simp; omega, i3⟩
  · rename_i h6
    split
    · split
      · exact ⟨i1, i2, i3⟩
      · split
        · exact ⟨i1, i2, i3⟩
        · refine ⟨by show (bs ++ [_]).length ≤ 5; simp; omega, i2, fun b hb => ?_⟩
          rcases List.mem_append.1 hb with hb | hb
          · exact i3 b hb
          · obtain rfl := List.mem_singleton.1 hb
            have := x6 h6
            exact ⟨by show x.box.size ≤ 1048576; omega, by show (1 : Int) ≤ 1; omega, by show (1 : Int) ≤ 1048577; omega, by simp, rfl⟩
    · split
      · exact ⟨i1, i2, i3⟩
      · obtain ⟨l1, l2⟩ := inv_mailV (i := (findG x.box bs 0).toNat) i3 x3 x4 x5
        exact ⟨by show (mailV bs _ x).2.length ≤ 5; omega, i2, l2⟩
theorem boxes_all {bs : List ABox} : ∀ (n k : Nat), bs.length - k = n → boxesFrom bs k = true → ∀ j (h : j < bs.length), k ≤ j → boxOk bs[j] = true := by
  intro n
  induction n with
  | zero => intro k hk _ j hj hkj; omega
  | succ n ih =>
    intro k hk h j hj hkj
    have hlt : k < bs.length := by omega
    rw [boxesFrom, dif_pos hlt] at h
    by_cases hb : boxOk bs[k] = true ∧ findG bs[k].1 (bs.take k) 0 < 0
    · rw [if_pos hb] at h
      rcases Nat.eq_or_lt_of_le hkj with rfl | hkj
      · exact hb.1
      · exact ih (k + 1) (by omega) h j hj hkj
    · rw [if_neg hb] at h; cases h
theorem inv_of_ok {bs : List ABox} {es : List AEntry} (hs : okSt bs es) (h : stFault bs es = 0) : InvS bs es := by
  unfold stFault at h
  by_cases h1 : 5 < bs.length ∨ 20 < es.length
  · rw [if_pos h1] at h; cases h
  · rw [if_neg h1] at h
    refine ⟨by omega, by omega, fun b hb => ?_⟩
    obtain ⟨j, hj, rfl⟩ := List.mem_iff_getElem.1 hb
    have hbf : boxesFrom bs 0 = true := by
      unfold stTail at h
      by_cases h2 : boxesFrom bs 0 = true
      · exact h2
      · rw [if_neg h2] at h; cases h
    have hbo := boxes_all _ 0 rfl hbf j hj (Nat.zero_le _)
    have hsz := hs.1 _ hb
    unfold boxOk at hbo
    split at hbo
    · cases hbo
    · rename_i h3
      exact ⟨hsz, by have : ¬ bs[j].2.1 < 1 := fun h4 => h3 (.inr (.inl h4)); omega, by have : ¬ 1048577 < bs[j].2.1 := fun h4 => h3 (.inr (.inr (.inl h4))); omega,
        by have : ¬ 30 < bs[j].2.2.length := fun h4 => h3 (.inr (.inr (.inr h4))); omega, hbo⟩
theorem inv_size {bs : List ABox} (h : ∀ b ∈ bs, GoodB b) : stSize bs ≤ bs.length * 60000 := by
  unfold stSize
  induction bs with
  | nil => simp
  | cons b bs ih =>
    have h1 := ih (fun z hz => h z (List.mem_cons_of_mem _ hz))
    obtain ⟨a1, a2, a3, a4, a5⟩ := h b (List.mem_cons_self ..)
    have h2 := mails_sz a5
    rw [List.map_cons, List.sum_cons, List.length_cons, Nat.add_mul]
    omega
theorem findU_snoc (u : Int) (m : AMail) : ∀ (l : List AMail) (i : Int), 0 ≤ i → findU u (l ++ [m]) i = if 0 ≤ findU u l i then findU u l i else if m.uid = u then i + l.length else -1
  | [], i, h => by
    by_cases hm : m.uid = u
    · simp [findU, hm]
    · simp [findU, hm]
  | z :: l, i, h => by
    rw [List.cons_append, findU, findU]
    by_cases hz : z.uid = u
    · rw [if_pos hz, if_pos hz, if_pos h]
    · rw [if_neg hz, if_neg hz, findU_snoc u m l (i + 1) (by omega)]
      split
      · rfl
      · split
        · simp; omega
        · rfl
theorem findU_none {u : Int} : ∀ (l : List AMail) (i : Int), (∀ m ∈ l, m.uid ≠ u) → findU u l i = -1
  | [], _, _ => rfl
  | z :: l, i, h => by
    rw [findU, if_neg (h z (List.mem_cons_self ..))]
    exact findU_none l _ fun m hm => h m (List.mem_cons_of_mem _ hm)
theorem findU_lt {u : Int} : ∀ (l : List AMail) (i : Int), findU u l i = -1 ∨ i ≤ findU u l i ∧ findU u l i < i + l.length
  | [], _ => .inl rfl
  | z :: l, i => by
    rw [findU]
    by_cases hz : z.uid = u
    · rw [if_pos hz]; right; simp; omega
    · rw [if_neg hz]
      rcases findU_lt (u := u) l (i + 1) with h | h
      · exact .inl h
      · right; simp; omega
theorem findG_lt {nm : ByteArray} : ∀ (l : List ABox) (i : Int), findG nm l i = -1 ∨ i ≤ findG nm l i ∧ findG nm l i < i + l.length
  | [], _ => .inl rfl
  | z :: l, i => by
    rw [findG]
    by_cases hz : z.1 = nm
    · rw [if_pos hz]; right; simp; omega
    · rw [if_neg hz]
      rcases findG_lt (nm := nm) l (i + 1) with h | h
      · exact .inl h
      · right; simp; omega
/-- Uids rise: those ahead of one are lesser. -/
theorem mails_rise {nx : Int} : ∀ (l : List AMail) (last : Int) (k : Nat) (h : k < l.length), mailsOk nx last l = true → ∀ m ∈ l.take k, m.uid < l[k].uid
  | [], _, _, h, _, _, _ => by cases h
  | z :: l, last, 0, _, _, m, hm => by cases hm
  | z :: l, last, k + 1, h, ho, m, hm => by
    rw [mails_cons] at ho
    rw [List.take_succ_cons] at hm
    have hk : k < l.length := by simpa using h
    show m.uid < l[k].uid
    rcases List.mem_cons.1 hm with rfl | hm
    · exact (mails_mem l _ ho.2 l[k] (List.getElem_mem hk)).1
    · exact mails_rise l _ k hk ho.2 m hm
/-- The reference's search, a step: the last one is the first. -/
theorem findU_step {nx u : Int} {l : List AMail} {k : Nat} (h : k < l.length) (ho : mailsOk nx 0 l = true) : findU u (l.take (k + 1)) 0 = if l[k].uid = u then (k : Int) else findU u (l.take k) 0 := by
  rw [List.take_succ_eq_append_getElem h, findU_snoc u _ _ 0 (Int.le_refl _)]
  have hl : (l.take k).length = k := by rw [List.length_take]; omega
  by_cases hu : l[k].uid = u
  · have hn : findU u (l.take k) 0 = -1 := findU_none _ _ fun m hm he => by
      have := mails_rise l 0 k h ho m hm
      omega
    rw [hn, if_neg (by decide), if_pos hu, if_pos hu, hl]; simp
  · rw [if_neg hu, if_neg hu]
    split
    · rfl
    · rename_i h2
      rcases findU_lt (u := u) (l.take k) 0 with h3 | h3
      · exact h3.symm
      · exact absurd h3.1 h2
theorem filter_step (p : AMail → Bool) {l : List AMail} {k : Nat} (h : k < l.length) : (l.take (k + 1)).filter p = (l.take k).filter p ++ if p l[k] = true then [l[k]] else [] := by
  rw [List.take_succ_eq_append_getElem h, List.filter_append]
  by_cases hp : p l[k] = true
  · rw [if_pos hp, List.filter_cons_of_pos hp]; rfl
  · rw [if_neg hp, List.filter_cons_of_neg hp]; rfl
end Go.Proofs.YtijdghplfhfpaaaDoor.H
