/- Patterns: the walk of glob.matches. -/
import Derived.Test.YtioemcfadniokaaGlobM
import Derived.Test.YtioemcfadniokaaGlobA
import Derived.Test.YtioemcfadniokaaCur
import Derived.Deep.QuietTactic
import Derived.BigQuiet
namespace Go.Proofs.Ytioemcfadniokaa.H
open Go.RowKit Go.Proofs.YtioemcfadniokaaW.PrintWords Go.Proofs.YtioemcfadniokaaW.PrintLast Go.Proofs.YtioemcfadniokaaW.PrintMore Go.Proofs.Ytioemcfadniokaa.U
set_option linter.unusedVariables false
set_option linter.unusedSimpArgs false
def Pc.enc (p : Pc) : List Value := [.int .u8 p.c, .bool p.one, .bool p.many]
def kPc : Kd Pc := flatKd 3 Pc.enc (fun _ => rfl) (fun x u hu => by simp only [Pc.enc, List.mem_cons, List.mem_nil_iff, or_false] at hu; rcases hu with rfl | rfl | rfl <;> rfl)
theorem rowPc : RowT Try.prog kPc 82 86 3 (.agg #[.int .u8 0, .bool false, .bool false]) :=
  ⟨Try.underlying82, by kernel_rfl, rfl, by decide, by decide, flat_kd⟩
noncomputable def fitsV (l : List Pc) (s : List Int) : Bool := open Classical in decide (M l s)
theorem fits_yes {l : List Pc} {s : List Int} (h : M l s) : fitsV l s = true := by rw [fitsV]; simpa using h
theorem fits_no {l : List Pc} {s : List Int} (h : ¬ M l s) : fitsV l s = false := by rw [fitsV]; simpa using h
def starV (st : Option Nat) : Int := match st with | none => -1 | some k => k
theorem bytes_at (s : ByteArray) (i : Nat) (h : i < s.size) : ∃ h' : i < (bytesOf s).length, (bytesOf s)[i] = (s[i].toNat : Int) := by
  have h' : i < (bytesOf s).length := by rw [bytesOf_length]; exact h
  refine ⟨h', ?_⟩
  have := bytesOf_get s i h
  rw [List.getElem?_eq_getElem h'] at this
  exact Option.some.inj this
def gMeas (n m i k f : Nat) : Nat := (n - f) * (n + m + 1) + (n - i) + (m - k)
theorem gMeas_star {n m i k f : Nat} (h : k < m) (hf : f ≤ i) : gMeas n m i (k + 1) i < gMeas n m i k f := by
  unfold gMeas
  have : (n - i) * (n + m + 1) ≤ (n - f) * (n + m + 1) := Nat.mul_le_mul_right _ (by omega)
  omega
theorem gMeas_step {n m i k f : Nat} (h : k < m) (hi : i < n) : gMeas n m (i + 1) (k + 1) f < gMeas n m i k f := by
  unfold gMeas; omega
theorem gMeas_back {n m i k f st : Nat} (hi : i < n) (hf : f ≤ i) : gMeas n m (f + 1) (st + 1) (f + 1) < gMeas n m i k f := by
  unfold gMeas
  have : (n - f) = (n - (f + 1)) + 1 := by omega
  rw [this, Nat.add_mul]
  omega
theorem greedy_from {l : List Pc} {s : List Int} {i k f : Nat} {st : Option Nat} (h : Greedy l s i k st f) : f ≤ i := by
  obtain ⟨_, _, h⟩ := h
  cases st with
  | none => rw [h.2]; exact Nat.zero_le _
  | some st => exact h.2.1
set_option maxHeartbeats 1000000 in
set_option maxRecDepth 100000 in
theorem matches_calls (s : ByteArray) (A : Option Addr) (c : Nat) (l : List Pc) (w : World) (hs : s.size ≤ 1048576) (hl : l.length ≤ 1048576) (hr : Kd.C kPc w A l.length l) :
    Calls Try.prog 50 #[.string s, .slice A l.length c] w fun e w' => e = .returned (.bool (fitsV l (bytesOf s))) ∧ Below w.heap.size w w' := by
  have hy := fun h => fits_yes (l := l) (s := bytesOf s) h
  have hn := fun h => fits_no (l := l) (s := bytesOf s) h
  have hlen := bytesOf_length s
  generalize fitsV l (bytesOf s) = r at *
  have HR := Lib.hid (And.intro hy hn)
  clear hy hn
  go_enter Try.func50, Try.ntmps50
  go_wp2
  go_loopw [5, 6, 7, 8] (fun vi vk vs vf wr => ∃ (i k f : Nat) (st : Option Nat), vi = .int .i64 i ∧ vk = .int .i64 k ∧ vs = .int .i64 (starV st) ∧ vf = .int .i64 f ∧ Greedy l (bytesOf s) i k st f ∧ ∃ q, wr = w.drewN q) (fun vi vk _ vf _ => gMeas s.size l.length (intOf vi).toNat (intOf vk).toNat (intOf vf).toNat)
  case atStart => exact ⟨0, 0, 0, none, rfl, rfl, rfl, rfl, greedy_start _ _, 0, rfl⟩
  case round =>
    obtain ⟨i, k, f, st, rfl, rfl, rfl, rfl, hG, q, rfl⟩ := hrel
    have hfi := greedy_from hG
    have hkl := hG.1
    have hil := hG.2.1
    rw [hlen] at hil
    have hG := Lib.hid hG
    by_cases hi : i < s.size
    · obtain ⟨hi', hsi⟩ := bytes_at s i hi
      have b0 := s[i].toNat_lt
      by_cases hk : k < l.length
      · obtain ⟨ad, e1, hx0, hxj⟩ := flat_at hr k hk
        subst e1
        have q0 := hx0 _ rfl
        have q1 := hxj 1 _ (by decide) rfl
        have q2 := hxj 2 _ (by decide) rfl
        clear hx0 hxj
        have k0 : (0 : Int) ≤ (k : Int) := by omega
        have k1 : (k : Int) < (l.length : Int) := by omega
        cases hm : l[k].many with
        | true =>
          have hG2 := greedy_star hG.out hk hm
          rw [hm] at q2
          go_wp2
          go_roundw
          case rel => exact ⟨i, k + 1, i, some k, rfl, by go_num, by simp [starV], rfl, hG2, _, rfl⟩
          case measure => simpa [intOf] using gMeas_star hk hfi
        | false =>
          rw [hm] at q2
          cases hone : l[k].one with
          | true =>
            have hG2 := greedy_step hG.out hk hi' hm (.inl hone)
            rw [hone] at q1
            go_wp2
            go_quiet (fail)
            go_wp2
            go_roundw
            case rel => exact ⟨i + 1, k + 1, f, st, by go_num, by go_num, rfl, rfl, hG2, _, rfl⟩
            case measure => simpa [intOf] using gMeas_step (f := f) hk hi
          | false =>
            rw [hone] at q1
            by_cases hc : l[k].c = (s[i].toNat : Int)
            · have hG2 := greedy_step hG.out hk hi' hm (.inr (by rw [hsi]; exact hc))
              have hcb : (l[k].c == (s[i].toNat : Int)) = true := by rw [hc]; simp
              rw [hc] at q0
              go_wp2
              go_quiet (fail)
              go_wp2
              go_roundw
              case rel => exact ⟨i + 1, k + 1, f, st, by go_num, by go_num, rfl, rfl, hG2, _, rfl⟩
              case measure => simpa [intOf] using gMeas_step (f := f) hk hi
            · have hcb : (l[k].c == (s[i].toNat : Int)) = false := by rw [beq_eq_false_iff_ne]; exact hc
              have hno : ∀ hk : k < l.length, l[k].many = false ∧ ¬ l[k].hit (bytesOf s)[i] := fun _ => ⟨hm, fun h => by
                rw [hsi] at h
                rcases h with h | h
                · rw [hone] at h; cases h
                · exact hc h⟩
              generalize l[k].c = pc at *
              cases st with
              | none =>
                obtain rfl := HR.out.2 (greedy_fail hG.out hi' hno)
                have e1 : starV none = -1 := rfl
                rw [e1]
                go_wp2
                go_quiet (fail)
                go_wp2
                go_ret
                exact ⟨(by first | rfl | (simp; done) | (simp [*]; done) | (rw [if_pos (by omega)]; first | rfl | (simp; done)) | (rw [if_neg (by omega)]; first | rfl | (simp; done)) | (simp; omega)), (by repeat (first | exact Below.refl _ _ | apply below_alloc | apply pw_below_drewN | apply below_drew1 | (refine Below.setCell ?_ (by first | (simp; done) | (simp; omega) | omega) _) ))⟩
              | some st =>
                have hG2 := greedy_back hG.out hi' hno
                have e1 : starV (some st) = (st : Int) := rfl
                rw [e1]
                have s0 : (0 : Int) ≤ (st : Int) := by omega
                have hst : st < k := hG.out.2.2.1
                go_wp2
                go_quiet (fail)
                go_wp2
                go_roundw
                case rel => exact ⟨f + 1, st + 1, f + 1, some st, by go_num, by go_num, rfl, by go_num, hG2, _, rfl⟩
                case measure => simpa [intOf] using gMeas_back (k := k) (st := st) (m := l.length) hi hfi
      · have k1 : ¬ (k : Int) < (l.length : Int) := by omega
        have hno : ∀ hk : k < l.length, l[k].many = false ∧ ¬ l[k].hit (bytesOf s)[i] := fun h => absurd h hk
        cases st with
        | none =>
          obtain rfl := HR.out.2 (greedy_fail hG.out hi' hno)
          have e1 : starV none = -1 := rfl
          rw [e1]
          go_wp2
          go_quiet (fail)
          go_wp2
          go_ret
          exact ⟨(by first | rfl | (simp; done) | (simp [*]; done) | (rw [if_pos (by omega)]; first | rfl | (simp; done)) | (rw [if_neg (by omega)]; first | rfl | (simp; done)) | (simp; omega)), (by repeat (first | exact Below.refl _ _ | apply below_alloc | apply pw_below_drewN | apply below_drew1 | (refine Below.setCell ?_ (by first | (simp; done) | (simp; omega) | omega) _) ))⟩
        | some st =>
          have hG2 := greedy_back hG.out hi' hno
          have e1 : starV (some st) = (st : Int) := rfl
          rw [e1]
          have s0 : (0 : Int) ≤ (st : Int) := by omega
          have hst : st < k := hG.out.2.2.1
          go_wp2
          go_quiet (fail)
          go_wp2
          go_roundw
          case rel => exact ⟨f + 1, st + 1, f + 1, some st, by go_num, by go_num, rfl, by go_num, hG2, _, rfl⟩
          case measure => simpa [intOf] using gMeas_back (k := k) (st := st) (m := l.length) hi hfi
    · obtain rfl : i = s.size := by omega
      have hend := greedy_end (by rw [hlen]; exact hG.out)
      go_wp2
      go_loopw [6] (fun vk wr => ∃ k2 : Nat, k ≤ k2 ∧ k2 ≤ l.length ∧ vk = .int .i64 k2 ∧ (∀ j (hj : j < l.length), k ≤ j → j < k2 → l[j].many = true) ∧ ∃ q, wr = w.drewN q) (fun vk _ => l.length - (intOf vk).toNat)
      case atStart => exact ⟨k, Nat.le_refl _, hkl, rfl, fun j _ h1 h2 => by omega, _, rfl⟩
      case round =>
        obtain ⟨k2, hk2, hkl2, rfl, hmany, q2, rfl⟩ := hrel
        have hmany := Lib.hid hmany
        by_cases hk : k2 < l.length
        · obtain ⟨ad, e1, hx0, hxj⟩ := flat_at hr k2 hk
          subst e1
          have q2 := hxj 2 _ (by decide) rfl
          clear hx0 hxj
          have k0 : (0 : Int) ≤ (k2 : Int) := by omega
          have k1 : (k2 : Int) < (l.length : Int) := by omega
          cases hm : l[k2].many with
          | true =>
            have hstep : ∀ j (hj : j < l.length), k ≤ j → j < k2 + 1 → l[j].many = true := fun j hj h1 h2 => by
              rcases Nat.lt_or_ge j k2 with h' | h'
              · exact hmany.out j hj h1 h'
              · obtain rfl : j = k2 := by omega
                exact hm
            rw [hm] at q2
            have hstep := Lib.hid hstep
            go_wp2
            go_roundw
            case rel => exact ⟨k2 + 1, by omega, by omega, by go_num, hstep.out, _, rfl⟩
            case measure => simp [intOf]; omega
          | false =>
            obtain rfl := HR.out.2 (fun h => end_no hk2 hk hm (hend.1 h))
            have k3 : ((k2 : Int) == (l.length : Int)) = false := by rw [beq_eq_false_iff_ne]; omega
            rw [hm] at q2
            go_wp2
            go_ret
            exact ⟨(by first | rfl | (simp; done) | (simp [*]; done) | (rw [if_pos (by omega)]; first | rfl | (simp; done)) | (rw [if_neg (by omega)]; first | rfl | (simp; done)) | (simp; omega)), (by repeat (first | exact Below.refl _ _ | apply below_alloc | apply pw_below_drewN | apply below_drew1 | (refine Below.setCell ?_ (by first | (simp; done) | (simp; omega) | omega) _) ))⟩
        · obtain rfl : k2 = l.length := by omega
          obtain rfl := HR.out.1 (hend.2 (end_yes fun j hj h1 => hmany.out j hj h1 hj))
          go_wp2
          go_ret
          exact ⟨(by first | rfl | (simp; done) | (simp [*]; done) | (rw [if_pos (by omega)]; first | rfl | (simp; done)) | (rw [if_neg (by omega)]; first | rfl | (simp; done)) | (simp; omega)), (by repeat (first | exact Below.refl _ _ | apply below_alloc | apply pw_below_drewN | apply below_drew1 | (refine Below.setCell ?_ (by first | (simp; done) | (simp; omega) | omega) _) ))⟩
end Go.Proofs.Ytioemcfadniokaa.H
