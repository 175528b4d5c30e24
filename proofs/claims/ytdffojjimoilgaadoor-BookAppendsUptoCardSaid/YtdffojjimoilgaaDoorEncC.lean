/- Batches as bytes: the reference's joined, lengthAnd and BatchBytes. -/
import Derived.Test.YtdffojjimoilgaaDoorEncB
import Derived.Lib.ConvBytes
namespace Go.Proofs.YtdffojjimoilgaaDoor.H
open Go.RowKit Go.Proofs.YtdffojjimoilgaaDoorW.PrintWords Go.Proofs.YtdffojjimoilgaaDoorW.PrintLast Go.Proofs.YtdffojjimoilgaaDoorW.PrintMore Go.Proofs.YtdffojjimoilgaaDoor.U
set_option linter.unusedVariables false
set_option linter.unusedSimpArgs false
theorem eb_get (s : ByteArray) (k : Nat) (h : k < s.size) : (bytesOf s)[k]? = some (s[k].toNat : Int) := by
  simp [bytesOf, h]
  rfl
theorem eb_below (w : World) (e : Nat) (s : ByteArray) : Below w.heap.size w (Lib.bytesWorld w e s) :=
  ⟨rfl, rfl, rfl, by rw [Lib.bytesWorld_size]; omega, fun i hi => Lib.bytesWorld_at_old w e s i hi⟩
theorem eb_reads (w : World) (e : Nat) (s : ByteArray) (h : s.size ≤ 140737488355328) : (Kd.int .u8).C (Lib.bytesWorld w e s) (some ⟨w.heap.size, 0, none⟩) (bytesOf s).length (bytesOf s) := by
  refine ⟨rfl, by rw [bytesOf_length]; omega, fun _ => ⟨_, rfl, fun j p hj => ?_⟩⟩
  have hjl : j < s.size := by
    rcases Nat.lt_or_ge j s.size with h | h
    · exact h
    · rw [List.getElem?_eq_none (by rw [bytesOf_length]; exact h)] at hj; cases hj
  refine ⟨[.int .u8 p], rfl, rfl, fun i u hi => ?_⟩
  match i, hi with
  | 0, hi =>
    obtain rfl : Value.int .u8 p = u := by simpa using hi
    have h1 := Lib.bytesWorld_cell w e s j hjl
    rw [eb_get s j hjl] at hj
    obtain rfl : (s[j].toNat : Int) = p := by simpa using hj
    have h3 : (⟨w.heap.size, 0, none⟩ : Addr).add (j * (Kd.int .u8).sz + 0) = ⟨w.heap.size, j, none⟩ := by rw [add_plain]; exact congrArg (fun x => (⟨w.heap.size, x, none⟩ : Addr)) (Nat.mul_one j)
    rw [h3, h1]
    simp [List.getD_eq_getElem?_getD, hjl]
    rfl
  | i + 1, hi => simp at hi
set_option maxHeartbeats 1000000 in
set_option maxRecDepth 100000 in
theorem joinB_calls (A : Option Addr) (c : Nat) (l : List Int) (A2 : Option Addr) (c2 : Nat) (l2 : List Int) (w : World) (hr : Kd.C (Kd.int .u8) w A l.length l) (hr2 : Kd.C (Kd.int .u8) w A2 l2.length l2) (hl : l.length + l2.length ≤ 140737488355328) :
    Calls Tryd.prog 44 #[.slice A l.length c, .slice A2 l2.length c2] w fun e w' => ∃ v : Value, e = .returned v ∧ Kd.R (Kd.int .u8) 5 w' w.heap.size (fun _ => True) v (l ++ l2) ∧ Below w.heap.size w w' := by
  go_enter Tryd.func44, Tryd.ntmps44
  go_wp2
  go_loopw [5, 6] (fun v i wr => ∃ k : Nat, k ≤ l.length ∧ i = .int .i64 k ∧ Kd.R (Kd.int .u8) 5 wr w.heap.size (fun _ => True) v (l.take k) ∧ Below w.heap.size w wr) (fun _ i _ => l.length - (intOf i).toNat)
  case atStart => exact ⟨0, Nat.zero_le _, rfl, Kd.R_nil _ _ _ _ _, Below.refl _ _⟩
  case round =>
    obtain ⟨k, hk, rfl, hR, hB⟩ := hrel
    by_cases hlt : k < l.length
    · obtain ⟨ad, e1, hx⟩ := int_at (Kd.C_below hr hB) k hlt
      subst e1
      have hts := Lib.hid (take_rd l k hlt)
      have hlen : (l.take k).length ≤ k := List.length_take_le _ _
      go_wp2_with (at_builtin; refine snoc_list rowU8 w.heap.size rfl _ _ rfl u5 (l.take k) (rd l k) [.int .u8 (rd l k)] rfl rfl rfl hR hB.size (by omega) ?_; intro v1 w1 hR1 hb1 hg1)
      go_roundw
      case rel => exact ⟨k + 1, by omega, by go_num, by rw [hts.out]; exact hR1, hB.trans hb1⟩
      case measure => simp [intOf]; omega
    · obtain rfl : k = l.length := by omega
      rw [List.take_length] at hR
      go_wp2
      go_loopw [5, 7] (fun v i wr => ∃ k : Nat, k ≤ l2.length ∧ i = .int .i64 k ∧ Kd.R (Kd.int .u8) 5 wr w.heap.size (fun _ => True) v (l ++ l2.take k) ∧ Below w.heap.size w wr) (fun _ i _ => l2.length - (intOf i).toNat)
      case atStart => exact ⟨0, Nat.zero_le _, rfl, by simpa using hR, hB⟩
      case round =>
        clear hR hB
        obtain ⟨k, hk, rfl, hR, hB⟩ := hrel
        by_cases hlt : k < l2.length
        · obtain ⟨ad, e1, hx⟩ := int_at (Kd.C_below hr2 hB) k hlt
          subst e1
          have hts := Lib.hid (take_rd l2 k hlt)
          have hlen : (l2.take k).length ≤ k := List.length_take_le _ _
          go_wp2_with (at_builtin; refine snoc_list rowU8 w.heap.size rfl _ _ rfl u5 (l ++ l2.take k) (rd l2 k) [.int .u8 (rd l2 k)] rfl rfl rfl hR hB.size (by simp; omega) ?_; intro v1 w1 hR1 hb1 hg1)
          go_roundw
          case rel => exact ⟨k + 1, by omega, by go_num, by rw [hts.out, ← List.append_assoc]; exact hR1, hB.trans hb1⟩
          case measure => simp [intOf]; omega
        · obtain rfl : k = l2.length := by omega
          rw [List.take_length] at hR
          go_wp2
          go_ret
          exact ⟨_, rfl, hR, hB⟩
set_option maxHeartbeats 1000000 in
set_option maxRecDepth 100000 in
theorem lengthAnd_calls (s : ByteArray) (w : World) (hs : s.size ≤ 1048576) :
    Calls Tryd.prog 43 #[.string s] w fun e w' => ∃ v : Value, e = .returned v ∧ Kd.R (Kd.int .u8) 5 w' w.heap.size (fun _ => True) v (lenAnd s) ∧ Below w.heap.size w w' := by
  have hcv := fun W => Lib.run_convert_string_bytes (P := Tryd.prog) W 9 29 5 s Tryd.underlying9 Tryd.underlying29 Tryd.underlying5
  have hL : (Kd.int .u8).C (w.alloc (.cells #[.int .u8 ((s.size : Int) / 256 % 256), .int .u8 ((s.size : Int) % 256)] 5)) (some ⟨w.heap.size, 0, none⟩) 2 [(s.size : Int) / 256 % 256, (s.size : Int) % 256] := C_ofR (R_lit [(s.size : Int) / 256 % 256, (s.size : Int) % 256] w 0 5 (Nat.zero_le _) (by simp))
  have hRd := eb_reads (w.alloc (.cells #[.int .u8 ((s.size : Int) / 256 % 256), .int .u8 ((s.size : Int) % 256)] 5)) 5 s (by omega)
  have hbw := eb_below (w.alloc (.cells #[.int .u8 ((s.size : Int) / 256 % 256), .int .u8 ((s.size : Int) % 256)] 5)) 5 s
  have hlen := bytesOf_length s
  have hJ := fun A c A2 c2 w hr hr2 => joinB_calls A c [(s.size : Int) / 256 % 256, (s.size : Int) % 256] A2 c2 (bytesOf s) w hr hr2 (by simp [hlen]; omega)
  rw [hlen] at hJ hRd
  rw [show (w.alloc (.cells #[.int .u8 ((s.size : Int) / 256 % 256), .int .u8 ((s.size : Int) % 256)] 5)).heap.size = w.heap.size + 1 by simp] at hRd hbw
  have hz2 := hbw.size
  have hz3 : (w.alloc (.cells #[.int .u8 ((s.size : Int) / 256 % 256), .int .u8 ((s.size : Int) % 256)] 5)).heap.size = w.heap.size + 1 := by simp
  have hBA : Below w.heap.size w (Lib.bytesWorld (w.alloc (.cells #[.int .u8 ((s.size : Int) / 256 % 256), .int .u8 ((s.size : Int) % 256)] 5)) 5 s) := Below.trans (by repeat (first | exact Below.refl _ _ | apply below_alloc | apply pw_below_drewN | apply below_drew1 | (refine Below.setCell ?_ (by first | (simp; done) | (simp; omega) | omega) _) )) (hbw.mono (by omega))
  have hL2 := Kd.C_below hL (eb_below _ 5 s)
  have hJ := Lib.hid hJ
  go_enter Tryd.func43, Tryd.ntmps43
  go_wp2_with fail
  refine (hJ.out _ _ _ _ _ hL2 hRd).mono ?_
  rintro e w2 ⟨v, rfl, hR, hb⟩
  go_wp2_with fail
  go_ret
  exact ⟨v, rfl, Kd.R_lower hR (by omega), hBA.trans (hb.mono (by omega))⟩
set_option maxHeartbeats 1500000 in
set_option maxRecDepth 100000 in
theorem batchBytes_calls (u : Int) (A : Option Addr) (c : Nat) (l : List AEntry) (w : World) (hr : Kd.C kAEntry w A l.length l) (hs : ∀ x ∈ l, okE x) :
    Calls Tryd.prog 16 #[.agg #[.int .i64 u, .slice A l.length c]] w (PostEnc w (encV u l)) := by
  have HC := fun w hr => batchFault_calls u A c l w hr hs
  have hblk0 := BlkT.made w #[.int .i64 u, .slice A l.length c] 24
  have hB0 : Below w.heap.size w (w.alloc (.cells #[.int .i64 u, .slice A l.length c] 24)) := (by repeat (first | exact Below.refl _ _ | apply below_alloc | apply pw_below_drewN | apply below_drew1 | (refine Below.setCell ?_ (by first | (simp; done) | (simp; omega) | omega) _) ))
  have hz0 : (w.alloc (.cells #[.int .i64 u, .slice A l.length c] 24)).heap.size = w.heap.size + 1 := by simp
  by_cases hf : batchFault u l = 0
  · rw [encV, if_pos hf]
    obtain ⟨u0, u1, u2, hgood⟩ := batch_good hf
    have hgood := Lib.hid hgood
    rw [hf] at HC
    clear hf
    have HC := Lib.hid HC
    go_enter Tryd.func16, Tryd.ntmps16
    go_wp2_with fail
    refine (HC.out _ (Kd.C_below hr hB0)).mono ?_
    rintro e w1 ⟨rfl, hb1⟩
    have hblk1 := hblk0.below hb1 (by omega)
    have hB1 := hB0.trans (hb1.mono (by omega))
    have hz1 := hblk1.1.lt
    have m0 := hblk1.1.at 0 _ rfl
    have m1 := hblk1.1.at 1 _ rfl
    clear hblk0 hB0 hb1
    have l1 : (l.length : Int) ≤ 10 := by omega
    go_wp2_with fail
    have hlit := R_lit [u, (l.length : Int)] w1 (w.heap.size + 1) 5 (by omega) (by simp)
    have hEnd : encB u l = [u, (l.length : Int)] ++ (l.take l.length).flatMap encE := by rw [List.take_length]; rfl
    have hEnd := Lib.hid hEnd
    have hlen := encB_len hs
    go_loopw [5, 6] (fun v i wr => ∃ k : Nat, k ≤ l.length ∧ i = .int .i64 k ∧ (Kd.int .u8).R 5 wr (w.heap.size + 1) (fun _ => True) v ([u, (l.length : Int)] ++ (l.take k).flatMap encE) ∧ BlkT wr w.heap.size 24 [.int .i64 u, .slice A l.length c] ∧ Below w.heap.size w wr) (fun _ i _ => l.length - (intOf i).toNat)
    case atStart => exact ⟨0, Nat.zero_le _, rfl, by simpa using hlit, hblk1.alloc _, (by repeat (first | exact Below.refl _ _ | apply below_alloc | apply pw_below_drewN | apply below_drew1 | (refine Below.setCell ?_ (by first | (simp; done) | (simp; omega) | omega) _) | exact hB1))⟩
    case round =>
      clear hlit hblk1 hB1 hz1 m0 m1 HC
      obtain ⟨k, hk, rfl, hR, hblk, hB⟩ := hrel
      have hz := hblk.1.lt
      have m1 := hblk.1.at 1 _ rfl
      have hal : ([u, (l.length : Int)] ++ (l.take k).flatMap encE).length ≤ 40000000 := by
        have h1 := encB_len (l := l.take k) (fun x hx => hs x (List.mem_of_mem_take hx))
        have h2 : (l.take k).length ≤ 10 := by rw [List.length_take]; omega
        rw [List.length_append]; simp only [List.length_cons, List.length_nil]
        have h3 : (l.take k).length * 3145800 ≤ 10 * 3145800 := Nat.mul_le_mul_right _ h2
        omega
      by_cases hlt : k < l.length
      · obtain ⟨ad, e1, hx0, hxj⟩ := flat_at (Kd.C_below hr hB) k hlt
        subst e1
        have q0 := hx0 _ rfl; have q1 := hxj 1 _ (by decide) rfl; have q2 := hxj 2 _ (by decide) rfl; have q3 := hxj 3 _ (by decide) rfl; have q4 := hxj 4 _ (by decide) rfl; have q5 := hxj 5 _ (by decide) rfl
        clear hx0 hxj
        have hnext := Lib.hid (encB_next l k hlt)
        obtain ⟨s1, s2, s3⟩ := hs _ (List.getElem_mem hlt)
        obtain ⟨k1, k2, k3, k4, k5, k6⟩ := entry_good (hgood.out _ (List.getElem_mem hlt))
        have i0 : (0 : Int) ≤ (k : Int) := by omega
        have i1 : (k : Int) < (l.length : Int) := by omega
        generalize hacc : ([u, (l.length : Int)] ++ (l.take k).flatMap encE) = acc at *
        have hacc := Lib.hid hacc
        generalize l[k] = x at *
        have hE := BlkT.made wr #[.int .i64 x.kind, .string x.box, .int .i64 x.uid, .int .i64 x.flags, .string x.to_, .string x.text] 60
        have hRW : (Kd.int .u8).R 5 ((wr.alloc (.cells #[.int .i64 x.kind, .string x.box, .int .i64 x.uid, .int .i64 x.flags, .string x.to_, .string x.text] 60)).alloc (.cells #[.int .u8 x.kind, .int .u8 x.flags, .int .u8 (x.uid / 65536), .int .u8 (x.uid / 256 % 256), .int .u8 (x.uid % 256)] 5)) (w.heap.size + 1) (fun _ => True) _ acc := Kd.R_below hR (by repeat (first | exact Below.refl _ _ | apply below_alloc | apply pw_below_drewN | apply below_drew1 | (refine Below.setCell ?_ (by first | (simp; done) | (simp; omega) | omega) _) ))
        have hLC := C_ofR (R_lit [x.kind, x.flags, x.uid / 65536, x.uid / 256 % 256, x.uid % 256] (wr.alloc (.cells #[.int .i64 x.kind, .string x.box, .int .i64 x.uid, .int .i64 x.flags, .string x.to_, .string x.text] 60)) 0 5 (Nat.zero_le _) (by simp))
        rw [show (wr.alloc (.cells #[.int .i64 x.kind, .string x.box, .int .i64 x.uid, .int .i64 x.flags, .string x.to_, .string x.text] 60)).heap.size = wr.heap.size + 1 by simp] at hLC
        have hEW := hE.alloc (.cells #[.int .u8 x.kind, .int .u8 x.flags, .int .u8 (x.uid / 65536), .int .u8 (x.uid / 256 % 256), .int .u8 (x.uid % 256)] 5)
        have hbW := (hblk.alloc (.cells #[.int .i64 x.kind, .string x.box, .int .i64 x.uid, .int .i64 x.flags, .string x.to_, .string x.text] 60)).alloc (.cells #[.int .u8 x.kind, .int .u8 x.flags, .int .u8 (x.uid / 65536), .int .u8 (x.uid / 256 % 256), .int .u8 (x.uid % 256)] 5)
        have hzW : ((wr.alloc (.cells #[.int .i64 x.kind, .string x.box, .int .i64 x.uid, .int .i64 x.flags, .string x.to_, .string x.text] 60)).alloc (.cells #[.int .u8 x.kind, .int .u8 x.flags, .int .u8 (x.uid / 65536), .int .u8 (x.uid / 256 % 256), .int .u8 (x.uid % 256)] 5)).heap.size = wr.heap.size + 2 := by simp
        have hBW : Below w.heap.size w ((wr.alloc (.cells #[.int .i64 x.kind, .string x.box, .int .i64 x.uid, .int .i64 x.flags, .string x.to_, .string x.text] 60)).alloc (.cells #[.int .u8 x.kind, .int .u8 x.flags, .int .u8 (x.uid / 65536), .int .u8 (x.uid / 256 % 256), .int .u8 (x.uid % 256)] 5)) := (by repeat (first | exact Below.refl _ _ | apply below_alloc | apply pw_below_drewN | apply below_drew1 | (refine Below.setCell ?_ (by first | (simp; done) | (simp; omega) | omega) _) | exact hB))
        go_wp2_with (at_builtin; refine rows_list rowU8 (w.heap.size + 1) rfl _ _ rfl _ acc [x.kind, x.flags, x.uid / 65536, x.uid / 256 % 256, x.uid % 256] (some ⟨wr.heap.size + 1, 0, none⟩) 5 (by first | rfl | (simp [Act.eval]; done)) (by first | rfl | (simp [Act.eval]; done)) hRW hLC (by omega) (by simp; omega) ?_; intro v1 w2 hR1 hb1 hg1; have hE2 := hEW.row hRW hg1 (by decide); have hb2 := hbW.below hb1 (by omega); have p1 := hE2.1.at 1 _ rfl; have hz2 := hb1.size; have hB2 := hBW.trans (hb1.mono (by omega)))
        clear hRW hLC hEW hE hBW hR hB hblk hbW hg1
        obtain ⟨A1, c1, rfl, _, hC1⟩ := C_of hR1
        generalize hpre : acc ++ [x.kind, x.flags, x.uid / 65536, x.uid / 256 % 256, x.uid % 256] = pre at *
        have hpl : pre.length ≤ 40000010 := by rw [← hpre]; simp; omega
        have hpre := Lib.hid hpre
        clear hR1
        with_reducible refine (lengthAnd_calls x.box _ s1).mono ?_
        rintro e w3 ⟨v3, rfl, hR3, hb3⟩
        obtain ⟨A3, c3, rfl, _, hC3⟩ := C_of hR3
        have hz3 := hb3.size
        have hB3 := hB2.trans (hb3.mono (by omega))
        have hE3 := hE2.below hb3 (by omega)
        have p4 := hE3.1.at 4 _ rfl
        go_wp2_with fail
        with_reducible refine (lengthAnd_calls x.to_ _ s2).mono ?_
        rintro e w4 ⟨v4, rfl, hR4, hb4⟩
        obtain ⟨A4, c4, rfl, _, hC4⟩ := C_of hR4
        have hz4 := hb4.size
        have hB4 := hB3.trans (hb4.mono (by omega))
        have hE4 := hE3.below hb4 (by omega)
        have p5 := hE4.1.at 5 _ rfl
        go_wp2_with fail
        with_reducible refine (lengthAnd_calls x.text _ s3).mono ?_
        rintro e w5 ⟨v5, rfl, hR5, hb5⟩
        obtain ⟨A5, c5, rfl, _, hC5⟩ := C_of hR5
        have hz5 := hb5.size
        have hB5 := hB4.trans (hb5.mono (by omega))
        have hblk5 := ((hb2.below hb3 (by omega)).below hb4 (by omega)).below hb5 (by omega)
        have n1 := Lib.hid (lenAnd_len x.box)
        have n2 := Lib.hid (lenAnd_len x.to_)
        have n3 := Lib.hid (lenAnd_len x.text)
        generalize hL1 : lenAnd x.box = L1 at *
        generalize hL2 : lenAnd x.to_ = L2 at *
        generalize hL3 : lenAnd x.text = L3 at *
        have hL1 := Lib.hid hL1
        have hL2 := Lib.hid hL2
        have hL3 := Lib.hid hL3
        go_wp2_with fail
        with_reducible refine (joinB_calls A1 c1 pre A3 c3 L1 w5 (Kd.C_below (Kd.C_below (Kd.C_below hC1 hb3) hb4) hb5) (Kd.C_below (Kd.C_below hC3 hb4) hb5) (by have := n1.out; omega)).mono ?_
        rintro e w6 ⟨v6, rfl, hR6, hb6⟩
        obtain ⟨A6, c6, rfl, _, hC6⟩ := C_of hR6
        have hz6 := hb6.size
        have hB6 := hB5.trans (hb6.mono (by omega))
        have n6 : (pre ++ L1).length ≤ 50000000 := by have := n1.out; rw [List.length_append]; omega
        generalize hp6 : pre ++ L1 = pre6 at *
        have hp6 := Lib.hid hp6
        go_wp2_with fail
        with_reducible refine (joinB_calls A6 c6 pre6 A4 c4 L2 w6 hC6 (Kd.C_below (Kd.C_below hC4 hb5) hb6) (by have := n2.out; omega)).mono ?_
        rintro e w7 ⟨v7, rfl, hR7, hb7⟩
        obtain ⟨A7, c7, rfl, _, hC7⟩ := C_of hR7
        have hz7 := hb7.size
        have hB7 := hB6.trans (hb7.mono (by omega))
        have n7 : (pre6 ++ L2).length ≤ 60000000 := by have := n2.out; rw [List.length_append]; omega
        generalize hp7 : pre6 ++ L2 = pre7 at *
        have hp7 := Lib.hid hp7
        go_wp2_with fail
        with_reducible refine (joinB_calls A7 c7 pre7 A5 c5 L3 w7 hC7 (Kd.C_below (Kd.C_below hC5 hb6) hb7) (by have := n3.out; omega)).mono ?_
        rintro e w8 ⟨v8, rfl, hR8, hb8⟩
        have hB8 := hB7.trans (hb8.mono (by omega))
        have hblk8 := ((hblk5.below hb6 (by omega)).below hb7 (by omega)).below hb8 (by omega)
        go_wp2_with fail
        go_roundw
        case rel =>
          refine ⟨k + 1, hlt, by go_num, ?_, hblk8, hB8⟩
          have he : [u, (l.length : Int)] ++ (l.take (k + 1)).flatMap encE = pre7 ++ L3 := by
            rw [hnext.out, ← List.append_assoc, hacc.out, ← hp7.out, ← hp6.out, ← hpre.out, ← hL1.out, ← hL2.out, ← hL3.out]; simp [encE, List.append_assoc]
          rw [he]; exact Kd.R_lower hR8 (by omega)
        case measure => simp [intOf]; omega
      · obtain rfl : k = l.length := by omega
        have i1 : ¬ (l.length : Int) < (l.length : Int) := by omega
        clear hal
        go_wp2_with fail
        go_ret2
        exact ⟨_, rfl, (by have hR2 := Kd.R_lower (base' := w.heap.size) hR (by omega); rw [← hEnd.out] at hR2; exact hR2), hB⟩
  · rw [encV, if_neg hf]
    generalize batchFault u l = f at *
    have hfb : (f != 0) = true := by simp [hf]
    clear hf
    have HC := Lib.hid HC
    go_enter Tryd.func16, Tryd.ntmps16
    go_wp2_with fail
    refine (HC.out _ (Kd.C_below hr hB0)).mono ?_
    rintro e w1 ⟨rfl, hb1⟩
    go_wp2_with fail
    go_ret2
    exact ⟨_, rfl, Kd.R_nil _ _ _ _ _, hB0.trans (hb1.mono (by omega))⟩
end Go.Proofs.YtdffojjimoilgaaDoor.H
