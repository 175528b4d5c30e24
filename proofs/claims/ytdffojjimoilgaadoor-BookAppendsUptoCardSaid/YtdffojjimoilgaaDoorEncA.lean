/- Batches as bytes: book.wide. -/
import Derived.Test.YtdffojjimoilgaaDoorByteRow
import Derived.Test.YtdffojjimoilgaaDoorBookA
namespace Go.Proofs.YtdffojjimoilgaaDoor.H
open Go.RowKit Go.Proofs.YtdffojjimoilgaaDoorW.PrintWords Go.Proofs.YtdffojjimoilgaaDoorW.PrintLast Go.Proofs.YtdffojjimoilgaaDoorW.PrintMore Go.Proofs.YtdffojjimoilgaaDoor.U
set_option linter.unusedVariables false
set_option linter.unusedSimpArgs false
set_option maxHeartbeats 1000000 in
set_option maxRecDepth 100000 in
theorem wide3_calls (n : Int) (h0 : 0 ≤ n) (h1 : n ≤ 1048576) (base : Nat) (V : Value) (xs : List Int) (w : World) (hR : (Kd.int .u8).R 5 w base (fun _ => True) V xs) (hb : base ≤ w.heap.size) (hl : xs.length ≤ 140737488300000) :
    Calls Tryd.prog 42 #[V, .int .i64 n, .int .i64 3] w fun e w' => ∃ v', e = .returned v' ∧ (Kd.int .u8).R 5 w' base (fun _ => True) v' (xs ++ [n / 65536, n / 256 % 256, n % 256]) ∧ Below base w w' ∧ w.grownBy w' V.ownBlock ∧ (v'.ownBlock = V.ownBlock ∨ ∃ b, v'.ownBlock = some b ∧ w.heap.size ≤ b) := by
  go_enter Tryd.func42, Tryd.ntmps42
  go_wp2_with fail
  go_loopw [0, 7] (fun v i wr => ((i = .int .i64 2 ∧ (Kd.int .u8).R 5 wr base (fun _ => True) v xs) ∨ (i = .int .i64 1 ∧ (Kd.int .u8).R 5 wr base (fun _ => True) v (xs ++ [n / 65536])) ∨ (i = .int .i64 0 ∧ (Kd.int .u8).R 5 wr base (fun _ => True) v (xs ++ [n / 65536] ++ [n / 256 % 256])) ∨ (i = .int .i64 (-1) ∧ (Kd.int .u8).R 5 wr base (fun _ => True) v (xs ++ [n / 65536] ++ [n / 256 % 256] ++ [n % 256]))) ∧ Below base w wr ∧ w.grownBy wr V.ownBlock ∧ (v.ownBlock = V.ownBlock ∨ ∃ b, v.ownBlock = some b ∧ w.heap.size ≤ b)) (fun _ i _ => (intOf i + 1).toNat)
  case atStart => exact ⟨.inl ⟨rfl, hR⟩, Below.refl _ _, World.grownBy.refl _ _, .inl rfl⟩
  case round =>
    clear hR
    obtain ⟨hk, hB, hK, hO⟩ := hrel
    have hz := hK.size
    rcases hk with ⟨rfl, hR⟩ | ⟨rfl, hR⟩ | ⟨rfl, hR⟩ | ⟨rfl, hR⟩
    · go_wp2_with (at_builtin; refine snoc_own rowU8 base rfl _ _ rfl _ (xs) (n / 65536) [.int .u8 (n / 65536)] (by first | rfl | (simp [Act.eval]; done)) (by first | rfl | (simp [Act.eval]; done)) rfl hR (by omega) (by first | omega | (simp; omega)) ?_; intro v1 w1 hR1 hb1 hg1 ho1)
      go_roundw
      case rel => exact ⟨.inr (.inl ⟨rfl, hR1⟩), hB.trans hb1, grown_step hK hg1 hO, own_step hO ho1 hK.size⟩
      case measure => simp [intOf]
    · go_wp2_with (at_builtin; refine snoc_own rowU8 base rfl _ _ rfl _ (xs ++ [n / 65536]) (n / 256 % 256) [.int .u8 (n / 256 % 256)] (by first | rfl | (simp [Act.eval]; done)) (by first | rfl | (simp [Act.eval]; done)) rfl hR (by omega) (by first | omega | (simp; omega)) ?_; intro v1 w1 hR1 hb1 hg1 ho1)
      go_roundw
      case rel => exact ⟨.inr (.inr (.inl ⟨rfl, hR1⟩)), hB.trans hb1, grown_step hK hg1 hO, own_step hO ho1 hK.size⟩
      case measure => simp [intOf]
    · go_wp2_with (at_builtin; refine snoc_own rowU8 base rfl _ _ rfl _ (xs ++ [n / 65536] ++ [n / 256 % 256]) (n % 256) [.int .u8 (n % 256)] (by first | rfl | (simp [Act.eval]; done)) (by first | rfl | (simp [Act.eval]; done)) rfl hR (by omega) (by first | omega | (simp; omega)) ?_; intro v1 w1 hR1 hb1 hg1 ho1)
      go_roundw
      case rel => exact ⟨.inr (.inr (.inr ⟨rfl, hR1⟩)), hB.trans hb1, grown_step hK hg1 hO, own_step hO ho1 hK.size⟩
      case measure => simp [intOf]
    · go_wp2_with fail
      go_ret
      exact ⟨_, rfl, by simpa using hR, hB, hK, hO⟩
set_option maxHeartbeats 1000000 in
set_option maxRecDepth 100000 in
theorem wide2_calls (n : Int) (h0 : 0 ≤ n) (base : Nat) (V : Value) (xs : List Int) (w : World) (hR : (Kd.int .u8).R 5 w base (fun _ => True) V xs) (hb : base ≤ w.heap.size) (hl : xs.length ≤ 140737488300000) :
    Calls Tryd.prog 42 #[V, .int .i64 n, .int .i64 2] w fun e w' => ∃ v', e = .returned v' ∧ (Kd.int .u8).R 5 w' base (fun _ => True) v' (xs ++ [n / 256 % 256, n % 256]) ∧ Below base w w' ∧ w.grownBy w' V.ownBlock ∧ (v'.ownBlock = V.ownBlock ∨ ∃ b, v'.ownBlock = some b ∧ w.heap.size ≤ b) := by
  go_enter Tryd.func42, Tryd.ntmps42
  go_wp2_with fail
  go_loopw [0, 7] (fun v i wr => ((i = .int .i64 1 ∧ (Kd.int .u8).R 5 wr base (fun _ => True) v xs) ∨ (i = .int .i64 0 ∧ (Kd.int .u8).R 5 wr base (fun _ => True) v (xs ++ [n / 256 % 256])) ∨ (i = .int .i64 (-1) ∧ (Kd.int .u8).R 5 wr base (fun _ => True) v (xs ++ [n / 256 % 256] ++ [n % 256]))) ∧ Below base w wr ∧ w.grownBy wr V.ownBlock ∧ (v.ownBlock = V.ownBlock ∨ ∃ b, v.ownBlock = some b ∧ w.heap.size ≤ b)) (fun _ i _ => (intOf i + 1).toNat)
  case atStart => exact ⟨.inl ⟨rfl, hR⟩, Below.refl _ _, World.grownBy.refl _ _, .inl rfl⟩
  case round =>
    clear hR
    obtain ⟨hk, hB, hK, hO⟩ := hrel
    have hz := hK.size
    rcases hk with ⟨rfl, hR⟩ | ⟨rfl, hR⟩ | ⟨rfl, hR⟩
    · go_wp2_with (at_builtin; refine snoc_own rowU8 base rfl _ _ rfl _ (xs) (n / 256 % 256) [.int .u8 (n / 256 % 256)] (by first | rfl | (simp [Act.eval]; done)) (by first | rfl | (simp [Act.eval]; done)) rfl hR (by omega) (by first | omega | (simp; omega)) ?_; intro v1 w1 hR1 hb1 hg1 ho1)
      go_roundw
      case rel => exact ⟨.inr (.inl ⟨rfl, hR1⟩), hB.trans hb1, grown_step hK hg1 hO, own_step hO ho1 hK.size⟩
      case measure => simp [intOf]
    · go_wp2_with (at_builtin; refine snoc_own rowU8 base rfl _ _ rfl _ (xs ++ [n / 256 % 256]) (n % 256) [.int .u8 (n % 256)] (by first | rfl | (simp [Act.eval]; done)) (by first | rfl | (simp [Act.eval]; done)) rfl hR (by omega) (by first | omega | (simp; omega)) ?_; intro v1 w1 hR1 hb1 hg1 ho1)
      go_roundw
      case rel => exact ⟨.inr (.inr ⟨rfl, hR1⟩), hB.trans hb1, grown_step hK hg1 hO, own_step hO ho1 hK.size⟩
      case measure => simp [intOf]
    · go_wp2_with fail
      go_ret
      exact ⟨_, rfl, by simpa using hR, hB, hK, hO⟩
/-- A text behind its length. -/
def lenAnd (s : ByteArray) : List Int := [(s.size : Int) / 256 % 256, (s.size : Int) % 256] ++ bytesOf s
def encE (x : AEntry) : List Int := [x.kind, x.flags] ++ [x.uid / 65536, x.uid / 256 % 256, x.uid % 256] ++ lenAnd x.box ++ lenAnd x.to_ ++ lenAnd x.text
def encB (u : Int) (l : List AEntry) : List Int := [u, (l.length : Int)] ++ l.flatMap encE
theorem lenAnd_len (s : ByteArray) : (lenAnd s).length = s.size + 2 := by simp [lenAnd, bytesOf_length]
theorem encE_len {x : AEntry} (h : okE x) : (encE x).length ≤ 3145800 := by
  obtain ⟨h1, h2, h3⟩ := h
  simp only [encE, List.length_append, lenAnd_len, List.length_cons, List.length_nil]
  omega
theorem encB_next (l : List AEntry) (k : Nat) (h : k < l.length) : (l.take (k + 1)).flatMap encE = (l.take k).flatMap encE ++ encE l[k] := by
  rw [List.take_succ_eq_append_getElem h, List.flatMap_append]; simp
theorem encB_len {l : List AEntry} (hs : ∀ x ∈ l, okE x) : (l.flatMap encE).length ≤ l.length * 3145800 := by
  induction l with
  | nil => simp
  | cons x l ih =>
    have h1 := encE_len (hs x (by simp))
    have h2 := ih (fun y hy => hs y (by simp [hy]))
    rw [List.flatMap_cons, List.length_append, List.length_cons]
    omega
theorem R_lit (xs : List Int) (W : World) (base e : Nat) (hb : base ≤ W.heap.size) (hm : xs.length ≤ 9223372036854775807) :
    (Kd.int .u8).R e (W.alloc (.cells (xs.map (Value.int .u8)).toArray e)) base (fun _ => True) (.slice (some ⟨W.heap.size, 0, none⟩) xs.length xs.length) xs :=
  ⟨fun _ _ => trivial, OwnRow.lit W base (Kd.reps_scalar xs) hb hm⟩
theorem first_all {l : List AEntry} (h : firstFault l = 0) : ∀ x ∈ l, entryFault x = 0 := by
  induction l with
  | nil => intro x hx; cases hx
  | cons y l ih =>
    rw [firstFault] at h
    by_cases hy : entryFault y = 0
    · rw [if_pos hy] at h
      intro x hx
      rcases List.mem_cons.1 hx with rfl | hx
      · exact hy
      · exact ih h x hx
    · rw [if_neg hy] at h; exact absurd h hy
theorem batch_good {u : Int} {l : List AEntry} (h : batchFault u l = 0) : 0 ≤ u ∧ u ≤ 2 ∧ l.length ≤ 10 ∧ ∀ x ∈ l, entryFault x = 0 := by
  unfold batchFault at h
  split at h
  · cases h
  · split at h
    · cases h
    · exact ⟨by omega, by omega, by omega, first_all h⟩
theorem entry_good {x : AEntry} (h : entryFault x = 0) : 1 ≤ x.kind ∧ x.kind ≤ 6 ∧ 0 ≤ x.flags ∧ x.flags ≤ 31 ∧ 0 ≤ x.uid ∧ x.uid ≤ 1048576 := by
  unfold entryFault at h
  split at h
  · cases h
  · split at h
    · cases h
    · split at h
      · cases h
      · omega
end Go.Proofs.YtdffojjimoilgaaDoor.H
