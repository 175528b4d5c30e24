/- Joined tokens: the text of a token; token.Join: the walks. -/
import Derived.Test.YtpeenmbonhijmaaDoorJoinB
import Derived.Test.YtpeenmbonhijmaaDoorBuf
import Derived.Test.YtpeenmbonhijmaaDoorTokB
import Derived.Lib.AppendIntMem
namespace Go.Proofs.YtpeenmbonhijmaaDoor.H
open Go.RowKit Go.Proofs.YtpeenmbonhijmaaDoorW.PrintWords Go.Proofs.YtpeenmbonhijmaaDoorW.PrintLast Go.Proofs.YtpeenmbonhijmaaDoorW.PrintMore Go.Proofs.YtpeenmbonhijmaaDoor.U
set_option linter.unusedVariables false
set_option linter.unusedSimpArgs false
theorem rowAToken : RowT Tryd.prog kAToken 67 124 32 (.agg #[.int .i64 0, .string ⟨#[]⟩, .int .i64 0]) :=
  ⟨Tryd.underlying67, by kernel_rfl, rfl, by decide, by decide, flat_kd⟩
def eqbAToken (x y : AToken) : Bool := x.kind == y.kind && (x.text.toList == y.text.toList && (x.number == y.number))
theorem eqbAToken_iff {x y : AToken} : eqbAToken x y = true ↔ x = y := by
  cases x; cases y
  simp only [eqbAToken, Bool.and_eq_true, beq_iff_eq, ByteArray.toList_eq, bytes_iff, AToken.mk.injEq]
theorem eqbAToken_self (x : AToken) : eqbAToken x x = true := eqbAToken_iff.2 rfl
theorem eqAToken (d : Nat) (w : World) (x_kind : Int) (x_text : ByteArray) (x_number : Int) (y_kind : Int) (y_text : ByteArray) (y_number : Int) :
    (Op.equalIn (d + 2) 124 (.agg #[.int .i64 x_kind, .string x_text, .int .i64 x_number]) (.agg #[.int .i64 y_kind, .string y_text, .int .i64 y_number])).run Tryd.prog w = .ok (eqbAToken ⟨x_kind, x_text, x_number⟩ ⟨y_kind, y_text, y_number⟩) w := by
  refine eqA_of Tryd.underlying124 (by kernel_rfl) ?_
  refine eqf_cons (by rfl) (by go_simp; rfl) (by go_simp; rfl) (by go_simp) ?_
  refine eqf_cons (by rfl) (by go_simp; rfl) (by go_simp; rfl) (by go_simp) ?_
  exact eqf_last (by rfl) (by go_simp; rfl) (by go_simp; rfl) (by go_simp)
abbrev TabB (w : World) : Prop := Lib.TabBelow Tryd.prog w.heap.size w "internal/strconv.uint64pow10" .u64 Lib.pow10Tab
theorem TabB.on {w w1 : World} (h : TabB w) (hb : Below w.heap.size w w1) : Lib.TabIs Tryd.prog w1 "internal/strconv.uint64pow10" .u64 Lib.pow10Tab := h w1 hb
theorem itoa_calls (n : Int) (w : World) (h0 : 0 ≤ n) (h1 : n ≤ 9223372036854775807) (htab : Lib.TabIs Tryd.prog w "internal/strconv.uint64pow10" .u64 Lib.pow10Tab) :
    Calls Tryd.prog 83 #[.int .i64 n] w fun e w' => e = .returned (.string (decT n.toNat)) ∧ Below w.heap.size w w' :=
  (Tryd.strconv_Itoa n (by omega) h1 w htab).mono fun e w' ⟨he, k, os, hw⟩ => ⟨by rw [he, Lib.itoa, if_neg (by omega)]; rfl, by subst hw; exact Lib.below_grow _ _ (Nat.le_refl _) k os⟩
/-- The text of a token that may be. -/
def tokT (k : Int) (s : ByteArray) (n : Int) : ByteArray := if k = 3 then decT n.toNat else if k = 2 then (⟨#[58]⟩ : ByteArray) ++ s else if k = 4 then quoteT s else s
theorem quoteT_size (s : ByteArray) : (quoteT s).size ≤ 2 * s.size + 2 := by
  have := escL_le s.data.toList
  have e : (quoteT s).size = ([34] ++ escL s.data.toList ++ [34]).length := by simp [quoteT, ByteArray.size]
  rw [e]
  have h2 : s.data.toList.length = s.size := by simp
  simp only [List.length_append, List.length_cons, List.length_nil]
  omega
theorem tokT_size (k : Int) (s : ByteArray) (n : Int) (hs : s.size ≤ 1048576) (hn : k = 3 → n ≤ 2147483647) : (tokT k s n).size ≤ 2097200 := by
  unfold tokT
  split
  · rename_i h
    have := decT_size n.toNat (by have := hn h; omega)
    omega
  · split
    · rw [ByteArray.size_append]; have : (⟨#[58]⟩ : ByteArray).size = 1 := rfl; omega
    · split
      · have := quoteT_size s; omega
      · omega
theorem fault_nb {s : ByteArray} {n : Int} (h : tokFault 3 s n = 0) : 0 ≤ n ∧ n ≤ 2147483647 := by
  unfold tokFault at h
  rw [if_neg (by omega), if_pos rfl] at h
  split at h
  · cases h
  · omega
def joinGo : List AToken → ByteArray → ByteArray × Int
  | [], s => (s, 0)
  | t :: r, s =>
    if tokFault t.kind t.text t.number = 0 then
      if 2000 < (s ++ tokT t.kind t.text t.number ++ (⟨#[32]⟩ : ByteArray)).size then (⟨#[]⟩, 1) else joinGo r (s ++ tokT t.kind t.text t.number ++ (⟨#[32]⟩ : ByteArray))
    else (⟨#[]⟩, tokFault t.kind t.text t.number)
def joinV (l : List AToken) : ByteArray × Int := if 400 < l.length then (⟨#[]⟩, 5) else joinGo l ⟨#[]⟩
set_option maxHeartbeats 4000000 in
set_option maxRecDepth 100000 in
theorem join_calls (A : Option Addr) (c : Nat) (l : List AToken) (m : Int) (w : World) (hr : Kd.C kAToken w A l.length l) (hs : ∀ t ∈ l, t.text.size ≤ 1048576) (hm : w.cell? ⟨0, 0, none⟩ = some (.int .i64 m)) (hg : 0 < w.heap.size) (htab : TabB w) :
    Calls Tryd.prog 42 #[.slice A l.length c] w fun e w' => e = .returned (.tuple #[.string (joinV l).1, .int .i64 (joinV l).2]) ∧ Below w.heap.size w w' := by
  have h63 := hr.2.1
  by_cases h400 : 400 < l.length
  · rw [show joinV l = (⟨#[]⟩, 5) by rw [joinV, if_pos h400]]
    have hi : (400 : Int) < l.length := by omega
    go_enter Tryd.func42, Tryd.ntmps42
    go_wp2_with fail
    go_ret2
    exact ⟨rfl, (by repeat (first | exact Below.refl _ _ | apply below_alloc | apply pw_below_drewN | apply below_drew1 | (refine Below.setCell ?_ (by first | (simp; done) | (simp; omega) | omega) _) ))⟩
  · have hi : ¬ (400 : Int) < l.length := by omega
    rw [show joinV l = joinGo l ⟨#[]⟩ by rw [joinV, if_neg h400]]
    generalize hR : joinGo l ⟨#[]⟩ = R
    obtain ⟨r1, r2⟩ := R
    go_enter Tryd.func42, Tryd.ntmps42
    go_wp2_with fail
    go_loopw [13] (fun i wr => ∃ (k : Nat) (s : ByteArray), k ≤ l.length ∧ i = .int .i64 k ∧ Buf w.heap.size w.heap.size s wr ∧ joinGo (l.drop k) s = (r1, r2) ∧ s.size ≤ 2000 ∧ Below w.heap.size w wr) (fun i _ => l.length - (intOf i).toNat)
    case atStart => exact ⟨0, ⟨#[]⟩, Nat.zero_le _, rfl, Buf.fresh w, by rw [List.drop_zero]; exact hR, by decide, (by repeat (first | exact Below.refl _ _ | apply below_alloc | apply pw_below_drewN | apply below_drew1 | (refine Below.setCell ?_ (by first | (simp; done) | (simp; omega) | omega) _) ))⟩
    case round =>
      clear hR
      obtain ⟨k, s, hk, rfl, hI, hR, hz, hB⟩ := hrel
      have hzw := hB.size
      by_cases hlt : k < l.length
      · obtain ⟨ad, e1, hx0, hxj⟩ := flat_at (Kd.C_below hr hB) k hlt
        subst e1
        have q0 := hx0 _ rfl; have q1 := hxj 1 _ (by decide) rfl; have q2 := hxj 2 _ (by decide) rfl
        clear hx0 hxj
        rw [List.drop_eq_getElem_cons hlt, joinGo] at hR
        have z1 := hs _ (List.getElem_mem hlt)
        generalize l[k] = t at *
        obtain ⟨tk, tt, tn⟩ := t
        simp only at q0 q1 q2 hR z1
        have i0 : (0 : Int) ≤ (k : Int) := by omega
        have i1 : (k : Int) < (l.length : Int) := by omega
        have HC := fun w => check_calls tk tt tn w (by omega)
        have hnum := fun h : tk = 3 => fault_nb (s := tt) (n := tn)
        have hTz := tokT_size tk tt tn z1
        by_cases hf : tokFault tk tt tn = 0
        · rw [if_pos hf] at hR
          rw [hf] at HC
          have HC := Lib.hid HC
          have hn3 : tk = 3 → 0 ≤ tn ∧ tn ≤ 2147483647 := fun h => hnum h (by subst h; exact hf)
          have hTz := hTz (fun h => (hn3 h).2)
          clear hf hnum
          generalize hT : tokT tk tt tn = T at *
          generalize hs2 : s ++ T ++ (⟨#[32]⟩ : ByteArray) = s2 at *
          have hsT : (s ++ T).size ≤ 2100000 := by rw [ByteArray.size_append]; omega
          have W1 : ∀ W, Buf w.heap.size w.heap.size s W → Calls Tryd.prog 82 #[.pointer (some ⟨w.heap.size, 0, none⟩), .string T] W fun e w' => e = .returned (.tuple #[.int .i64 T.size, .nilIface]) ∧ Buf w.heap.size w.heap.size (s ++ T) w' ∧ Below w.heap.size W w' := fun W h => buf_write _ _ s T W h (by omega)
          have W2 : ∀ W, Buf w.heap.size w.heap.size (s ++ T) W → Calls Tryd.prog 85 #[.pointer (some ⟨w.heap.size, 0, none⟩), .int .u8 32] W fun e w' => e = .returned .nilIface ∧ Buf w.heap.size w.heap.size s2 w' ∧ Below w.heap.size W w' := fun W h => by
            have := buf_byte w.heap.size w.heap.size (s ++ T) 32 W h (by omega)
            rw [hs2] at this
            exact this
          have W3 := fun W h => buf_len w.heap.size w.heap.size s2 W h
          have HW := Lib.hid (And.intro W1 (And.intro W2 W3))
          clear W1 W2 W3 hs2
          have hB1 := fun (o : Obj) (w1 : World) (hb : Below (wr.alloc o).heap.size (wr.alloc o) w1) => hI.below ((Below.alloc (Below.refl wr.heap.size wr) (Nat.le_refl _) o).trans (hb.mono (by simp)))
          rcases (by omega : tk = 3 ∨ tk = 2 ∨ tk = 4 ∨ (tk ≠ 3 ∧ tk ≠ 2 ∧ tk ≠ 4)) with rfl | rfl | rfl | ⟨k3, k2, k4⟩
          · obtain ⟨n0, n1⟩ := hn3 rfl
            have HI := fun W ht => itoa_calls tn W n0 (by omega) ht
            rw [show decT tn.toNat = T by rw [← hT]; rfl] at HI
            have HI := Lib.hid HI
            clear hT hn3
            go_wp2_with fail
            refine (HC.out _).mono ?_
            rintro e w1 ⟨rfl, hb1⟩
            obtain ⟨hc_w1, hf_w1⟩ := bcell hb1
            have s_ := hb1.size
            (try simp at s_)
            (first | (have : wr.heap.size < w1.heap.size := by omega) | skip)
            have : wr.heap.size ≤ w1.heap.size := by omega
            clear s_
            have : w1.cell? ⟨wr.heap.size, 0, none⟩ = some (.int .i64 3) := (by rw [hc_w1 _ _ (by first | (simp; done) | (simp; omega))]; first | (simp; done) | (simp [*]; done) | assumption | (simp [go_sem, *]; done)); have : w1.frozen? ⟨wr.heap.size, 0, none⟩ = false := (by rw [hf_w1 _ _ (by first | (simp; done) | (simp; omega))]; first | (simp; done) | (simp [*]; done) | assumption | (simp [go_sem, *]; done)); have : w1.cell? ⟨wr.heap.size, 1, none⟩ = some (.string tt) := (by rw [hc_w1 _ _ (by first | (simp; done) | (simp; omega))]; first | (simp; done) | (simp [*]; done) | assumption | (simp [go_sem, *]; done)); have : w1.frozen? ⟨wr.heap.size, 1, none⟩ = false := (by rw [hf_w1 _ _ (by first | (simp; done) | (simp; omega))]; first | (simp; done) | (simp [*]; done) | assumption | (simp [go_sem, *]; done)); have : w1.cell? ⟨wr.heap.size, 2, none⟩ = some (.int .i64 tn) := (by rw [hc_w1 _ _ (by first | (simp; done) | (simp; omega))]; first | (simp; done) | (simp [*]; done) | assumption | (simp [go_sem, *]; done)); have : w1.frozen? ⟨wr.heap.size, 2, none⟩ = false := (by rw [hf_w1 _ _ (by first | (simp; done) | (simp; omega))]; first | (simp; done) | (simp [*]; done) | assumption | (simp [go_sem, *]; done))
            have hI1 := hB1 _ _ hb1
            clear hc_w1 hf_w1
            go_wp2_with fail
            refine (HI.out _ (htab.on (by repeat (first | exact Below.refl _ _ | apply below_alloc | apply pw_below_drewN | apply below_drew1 | (refine Below.setCell ?_ (by first | (simp; done) | (simp; omega) | omega) _) | (refine Below.trans ?_ (Below.mono hb1 (by first | (simp; done) | (simp; omega) | omega))) | exact hB)))).mono ?_
            rintro e w2 ⟨rfl, hb2⟩
            have hz2 := hb2.size
            go_wp2_with fail
            refine (HW.out.1 _ (hI1.below hb2)).mono ?_
            rintro e w3 ⟨rfl, hI3, hb3⟩
            go_wp2_with fail
            refine (HW.out.2.1 _ hI3).mono ?_
            rintro e w4 ⟨rfl, hI4, hb4⟩
            go_wp2_with fail
            refine (HW.out.2.2 _ hI4).mono ?_
            rintro e w4' ⟨rfl, rfl⟩
            have hbb : Below w.heap.size w w4 := (by repeat (first | exact Below.refl _ _ | apply below_alloc | apply pw_below_drewN | apply below_drew1 | (refine Below.setCell ?_ (by first | (simp; done) | (simp; omega) | omega) _) | (refine Below.trans ?_ (Below.mono hb4 (by first | (simp; done) | (simp; omega) | omega))) | (refine Below.trans ?_ (Below.mono hb3 (by first | (simp; done) | (simp; omega) | omega))) | (refine Below.trans ?_ (Below.mono hb2 (by first | (simp; done) | (simp; omega) | omega))) | (refine Below.trans ?_ (Below.mono hb1 (by first | (simp; done) | (simp; omega) | omega))) | exact hB))
            by_cases hz2 : 2000 < s2.size
            · rw [if_pos hz2] at hR
              obtain ⟨rfl, rfl⟩ := Prod.mk.inj hR
              clear hR
              have hz2' : (2000 : Int) < s2.size := by omega
              go_wp2_with fail
              go_ret2
              exact ⟨rfl, hbb⟩
            · rw [if_neg hz2] at hR
              have hR := Lib.hid hR
              have hz2' : ¬ (2000 : Int) < s2.size := by omega
              go_wp2_with fail
              go_roundw
              case rel => exact ⟨k + 1, s2, by omega, by go_num, hI4, hR.out, by omega, hbb⟩
              case measure => simp [intOf]; omega
          · rw [show tokT 2 tt tn = (⟨#[58]⟩ : ByteArray) ++ tt from rfl] at hT
            subst hT
            have d1 : (1 : Int) + tt.size ≤ 9223372036854775807 := by omega
            clear hn3
            go_wp2_with fail
            refine (HC.out _).mono ?_
            rintro e w1 ⟨rfl, hb1⟩
            obtain ⟨hc_w1, hf_w1⟩ := bcell hb1
            have s_ := hb1.size
            (try simp at s_)
            (first | (have : wr.heap.size < w1.heap.size := by omega) | skip)
            have : wr.heap.size ≤ w1.heap.size := by omega
            clear s_
            have : w1.cell? ⟨wr.heap.size, 0, none⟩ = some (.int .i64 2) := (by rw [hc_w1 _ _ (by first | (simp; done) | (simp; omega))]; first | (simp; done) | (simp [*]; done) | assumption | (simp [go_sem, *]; done)); have : w1.frozen? ⟨wr.heap.size, 0, none⟩ = false := (by rw [hf_w1 _ _ (by first | (simp; done) | (simp; omega))]; first | (simp; done) | (simp [*]; done) | assumption | (simp [go_sem, *]; done)); have : w1.cell? ⟨wr.heap.size, 1, none⟩ = some (.string tt) := (by rw [hc_w1 _ _ (by first | (simp; done) | (simp; omega))]; first | (simp; done) | (simp [*]; done) | assumption | (simp [go_sem, *]; done)); have : w1.frozen? ⟨wr.heap.size, 1, none⟩ = false := (by rw [hf_w1 _ _ (by first | (simp; done) | (simp; omega))]; first | (simp; done) | (simp [*]; done) | assumption | (simp [go_sem, *]; done)); have : w1.cell? ⟨wr.heap.size, 2, none⟩ = some (.int .i64 tn) := (by rw [hc_w1 _ _ (by first | (simp; done) | (simp; omega))]; first | (simp; done) | (simp [*]; done) | assumption | (simp [go_sem, *]; done)); have : w1.frozen? ⟨wr.heap.size, 2, none⟩ = false := (by rw [hf_w1 _ _ (by first | (simp; done) | (simp; omega))]; first | (simp; done) | (simp [*]; done) | assumption | (simp [go_sem, *]; done))
            have hI1 := hB1 _ _ hb1
            clear hc_w1 hf_w1
            go_wp2_with fail
            refine (HW.out.1 _ hI1).mono ?_
            rintro e w3 ⟨rfl, hI3, hb3⟩
            go_wp2_with fail
            refine (HW.out.2.1 _ hI3).mono ?_
            rintro e w4 ⟨rfl, hI4, hb4⟩
            go_wp2_with fail
            refine (HW.out.2.2 _ hI4).mono ?_
            rintro e w4' ⟨rfl, rfl⟩
            have hbb : Below w.heap.size w w4 := (by repeat (first | exact Below.refl _ _ | apply below_alloc | apply pw_below_drewN | apply below_drew1 | (refine Below.setCell ?_ (by first | (simp; done) | (simp; omega) | omega) _) | (refine Below.trans ?_ (Below.mono hb4 (by first | (simp; done) | (simp; omega) | omega))) | (refine Below.trans ?_ (Below.mono hb3 (by first | (simp; done) | (simp; omega) | omega))) | (refine Below.trans ?_ (Below.mono hb1 (by first | (simp; done) | (simp; omega) | omega))) | exact hB))
            by_cases hz2 : 2000 < s2.size
            · rw [if_pos hz2] at hR
              obtain ⟨rfl, rfl⟩ := Prod.mk.inj hR
              clear hR
              have hz2' : (2000 : Int) < s2.size := by omega
              go_wp2_with fail
              go_ret2
              exact ⟨rfl, hbb⟩
            · rw [if_neg hz2] at hR
              have hR := Lib.hid hR
              have hz2' : ¬ (2000 : Int) < s2.size := by omega
              go_wp2_with fail
              go_roundw
              case rel => exact ⟨k + 1, s2, by omega, by go_num, hI4, hR.out, by omega, hbb⟩
              case measure => simp [intOf]; omega
          · have HQ := fun W hm hg => quote_calls tt m W z1 hm hg
            rw [show quoteT tt = T by rw [← hT]; rfl] at HQ
            have HQ := Lib.hid HQ
            clear hT hn3
            go_wp2_with fail
            refine (HC.out _).mono ?_
            rintro e w1 ⟨rfl, hb1⟩
            obtain ⟨hc_w1, hf_w1⟩ := bcell hb1
            have s_ := hb1.size
            (try simp at s_)
            (first | (have : wr.heap.size < w1.heap.size := by omega) | skip)
            have : wr.heap.size ≤ w1.heap.size := by omega
            clear s_
            have : w1.cell? ⟨wr.heap.size, 0, none⟩ = some (.int .i64 4) := (by rw [hc_w1 _ _ (by first | (simp; done) | (simp; omega))]; first | (simp; done) | (simp [*]; done) | assumption | (simp [go_sem, *]; done)); have : w1.frozen? ⟨wr.heap.size, 0, none⟩ = false := (by rw [hf_w1 _ _ (by first | (simp; done) | (simp; omega))]; first | (simp; done) | (simp [*]; done) | assumption | (simp [go_sem, *]; done)); have : w1.cell? ⟨wr.heap.size, 1, none⟩ = some (.string tt) := (by rw [hc_w1 _ _ (by first | (simp; done) | (simp; omega))]; first | (simp; done) | (simp [*]; done) | assumption | (simp [go_sem, *]; done)); have : w1.frozen? ⟨wr.heap.size, 1, none⟩ = false := (by rw [hf_w1 _ _ (by first | (simp; done) | (simp; omega))]; first | (simp; done) | (simp [*]; done) | assumption | (simp [go_sem, *]; done)); have : w1.cell? ⟨wr.heap.size, 2, none⟩ = some (.int .i64 tn) := (by rw [hc_w1 _ _ (by first | (simp; done) | (simp; omega))]; first | (simp; done) | (simp [*]; done) | assumption | (simp [go_sem, *]; done)); have : w1.frozen? ⟨wr.heap.size, 2, none⟩ = false := (by rw [hf_w1 _ _ (by first | (simp; done) | (simp; omega))]; first | (simp; done) | (simp [*]; done) | assumption | (simp [go_sem, *]; done))
            have hI1 := hB1 _ _ hb1
            clear hc_w1 hf_w1
            go_wp2_with fail
            refine (HQ.out _ (cell_below (show Below w.heap.size w w1 from (by repeat (first | exact Below.refl _ _ | apply below_alloc | apply pw_below_drewN | apply below_drew1 | (refine Below.setCell ?_ (by first | (simp; done) | (simp; omega) | omega) _) | (refine Below.trans ?_ (Below.mono hb1 (by first | (simp; done) | (simp; omega) | omega))) | exact hB))) hm hg) (by omega)).mono ?_
            rintro e w2 ⟨rfl, hb2⟩
            have hz2 := hb2.size
            go_wp2_with fail
            refine (HW.out.1 _ (hI1.below hb2)).mono ?_
            rintro e w3 ⟨rfl, hI3, hb3⟩
            go_wp2_with fail
            refine (HW.out.2.1 _ hI3).mono ?_
            rintro e w4 ⟨rfl, hI4, hb4⟩
            go_wp2_with fail
            refine (HW.out.2.2 _ hI4).mono ?_
            rintro e w4' ⟨rfl, rfl⟩
            have hbb : Below w.heap.size w w4 := (by repeat (first | exact Below.refl _ _ | apply below_alloc | apply pw_below_drewN | apply below_drew1 | (refine Below.setCell ?_ (by first | (simp; done) | (simp; omega) | omega) _) | (refine Below.trans ?_ (Below.mono hb4 (by first | (simp; done) | (simp; omega) | omega))) | (refine Below.trans ?_ (Below.mono hb3 (by first | (simp; done) | (simp; omega) | omega))) | (refine Below.trans ?_ (Below.mono hb2 (by first | (simp; done) | (simp; omega) | omega))) | (refine Below.trans ?_ (Below.mono hb1 (by first | (simp; done) | (simp; omega) | omega))) | exact hB))
            by_cases hz2 : 2000 < s2.size
            · rw [if_pos hz2] at hR
              obtain ⟨rfl, rfl⟩ := Prod.mk.inj hR
              clear hR
              have hz2' : (2000 : Int) < s2.size := by omega
              go_wp2_with fail
              go_ret2
              exact ⟨rfl, hbb⟩
            · rw [if_neg hz2] at hR
              have hR := Lib.hid hR
              have hz2' : ¬ (2000 : Int) < s2.size := by omega
              go_wp2_with fail
              go_roundw
              case rel => exact ⟨k + 1, s2, by omega, by go_num, hI4, hR.out, by omega, hbb⟩
              case measure => simp [intOf]; omega
          · rw [show tokT tk tt tn = tt by rw [tokT, if_neg k3, if_neg k2, if_neg k4]] at hT
            subst hT
            clear hn3
            go_wp2_with fail
            refine (HC.out _).mono ?_
            rintro e w1 ⟨rfl, hb1⟩
            obtain ⟨hc_w1, hf_w1⟩ := bcell hb1
            have s_ := hb1.size
            (try simp at s_)
            (first | (have : wr.heap.size < w1.heap.size := by omega) | skip)
            have : wr.heap.size ≤ w1.heap.size := by omega
            clear s_
            have : w1.cell? ⟨wr.heap.size, 0, none⟩ = some (.int .i64 tk) := (by rw [hc_w1 _ _ (by first | (simp; done) | (simp; omega))]; first | (simp; done) | (simp [*]; done) | assumption | (simp [go_sem, *]; done)); have : w1.frozen? ⟨wr.heap.size, 0, none⟩ = false := (by rw [hf_w1 _ _ (by first | (simp; done) | (simp; omega))]; first | (simp; done) | (simp [*]; done) | assumption | (simp [go_sem, *]; done)); have : w1.cell? ⟨wr.heap.size, 1, none⟩ = some (.string tt) := (by rw [hc_w1 _ _ (by first | (simp; done) | (simp; omega))]; first | (simp; done) | (simp [*]; done) | assumption | (simp [go_sem, *]; done)); have : w1.frozen? ⟨wr.heap.size, 1, none⟩ = false := (by rw [hf_w1 _ _ (by first | (simp; done) | (simp; omega))]; first | (simp; done) | (simp [*]; done) | assumption | (simp [go_sem, *]; done)); have : w1.cell? ⟨wr.heap.size, 2, none⟩ = some (.int .i64 tn) := (by rw [hc_w1 _ _ (by first | (simp; done) | (simp; omega))]; first | (simp; done) | (simp [*]; done) | assumption | (simp [go_sem, *]; done)); have : w1.frozen? ⟨wr.heap.size, 2, none⟩ = false := (by rw [hf_w1 _ _ (by first | (simp; done) | (simp; omega))]; first | (simp; done) | (simp [*]; done) | assumption | (simp [go_sem, *]; done))
            have hI1 := hB1 _ _ hb1
            clear hc_w1 hf_w1
            go_wp2_with fail
            refine (HW.out.1 _ hI1).mono ?_
            rintro e w3 ⟨rfl, hI3, hb3⟩
            go_wp2_with fail
            refine (HW.out.2.1 _ hI3).mono ?_
            rintro e w4 ⟨rfl, hI4, hb4⟩
            go_wp2_with fail
            refine (HW.out.2.2 _ hI4).mono ?_
            rintro e w4' ⟨rfl, rfl⟩
            have hbb : Below w.heap.size w w4 := (by repeat (first | exact Below.refl _ _ | apply below_alloc | apply pw_below_drewN | apply below_drew1 | (refine Below.setCell ?_ (by first | (simp; done) | (simp; omega) | omega) _) | (refine Below.trans ?_ (Below.mono hb4 (by first | (simp; done) | (simp; omega) | omega))) | (refine Below.trans ?_ (Below.mono hb3 (by first | (simp; done) | (simp; omega) | omega))) | (refine Below.trans ?_ (Below.mono hb1 (by first | (simp; done) | (simp; omega) | omega))) | exact hB))
            by_cases hz2 : 2000 < s2.size
            · rw [if_pos hz2] at hR
              obtain ⟨rfl, rfl⟩ := Prod.mk.inj hR
              clear hR
              have hz2' : (2000 : Int) < s2.size := by omega
              go_wp2_with fail
              go_ret2
              exact ⟨rfl, hbb⟩
            · rw [if_neg hz2] at hR
              have hR := Lib.hid hR
              have hz2' : ¬ (2000 : Int) < s2.size := by omega
              go_wp2_with fail
              go_roundw
              case rel => exact ⟨k + 1, s2, by omega, by go_num, hI4, hR.out, by omega, hbb⟩
              case measure => simp [intOf]; omega
        · rw [if_neg hf] at hR
          obtain ⟨rfl, rfl⟩ := Prod.mk.inj hR
          clear hR hnum
          have e1 : (tokFault tk tt tn != 0) = true := by rw [bne_iff_ne]; exact hf
          clear hf
          generalize hfv : tokFault tk tt tn = f at *
          have hfv := Lib.hid hfv
          have HC := Lib.hid HC
          go_wp2_with fail
          refine (HC.out _).mono ?_
          rintro e w1 ⟨rfl, hb1⟩
          go_wp2_with fail
          go_ret2
          exact ⟨by rw [hfv.out]; rfl, (by repeat (first | exact Below.refl _ _ | apply below_alloc | apply pw_below_drewN | apply below_drew1 | (refine Below.setCell ?_ (by first | (simp; done) | (simp; omega) | omega) _) | (refine Below.trans ?_ (Below.mono hb1 (by first | (simp; done) | (simp; omega) | omega))) | exact hB))⟩
      · obtain rfl : k = l.length := by omega
        rw [List.drop_eq_nil_of_le (Nat.le_refl _), joinGo] at hR
        obtain ⟨rfl, rfl⟩ := Prod.mk.inj hR
        have HS := Lib.hid (buf_string w.heap.size w.heap.size s wr hI)
        go_wp2_with fail
        refine HS.out.mono ?_
        rintro e w1 ⟨rfl, hb1⟩
        go_wp2_with fail
        go_ret2
        exact ⟨rfl, hB.trans hb1⟩
end Go.Proofs.YtpeenmbonhijmaaDoor.H
