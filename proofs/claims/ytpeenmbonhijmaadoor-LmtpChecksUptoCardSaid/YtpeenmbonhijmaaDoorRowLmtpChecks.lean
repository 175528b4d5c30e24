/- The law LmtpChecks answers true at every session of small bulk: lmtp.Check answers as the reference's SessionFault. -/
import Derived.Test.YtpeenmbonhijmaaDoorCards
import Derived.Test.YtpeenmbonhijmaaDoorTie
import Derived.Test.YtpeenmbonhijmaaDoorOpensU
import Derived.Test.YtpeenmbonhijmaaDoorLaid
import Derived.Test.YtpeenmbonhijmaaDoorBase
import Derived.WalkKit
import Derived.ProofKit
import Derived.OpenShut
import Derived.ShutString
import Derived.ChangeOld
import Derived.Below
import Derived.Carry
import Derived.SevenTiedAt
import Derived.Test.YtpeenmbonhijmaaDoorKinds
import Derived.Test.YtpeenmbonhijmaaDoorLmtpC
import Derived.Test.YtpeenmbonhijmaaDoorLmtpE
import Derived.Test.YtpeenmbonhijmaaDoorLmtpG
import Derived.Shelf.Vars
namespace Go.Proofs.YtpeenmbonhijmaaDoor.H
open Go.RowKit Go.Proofs.YtpeenmbonhijmaaDoorW.PrintWords Go.Proofs.YtpeenmbonhijmaaDoorW.PrintLast Go.Proofs.YtpeenmbonhijmaaDoorW.PrintMore Go.Proofs.YtpeenmbonhijmaaDoor.U
set_option linter.unusedVariables false
set_option linter.unusedSimpArgs false
set_option maxHeartbeats 1000000 in
set_option maxRecDepth 100000 in
theorem lmtpCheck_calls (st : Int) (fr : AAddress) (A : Option Addr) (c : Nat) (l : List AAddress) (tx : ByteArray) (lg : Bool) (w : World) (hr : Kd.C kAAddress w A l.length l) (hlc : l.length ≤ c) (m : Int) (ha : fr.loc.size ≤ 1048576) (hb : fr.dom.size ≤ 1048576) (hs : ∀ x ∈ l, x.loc.size ≤ 1048576 ∧ x.dom.size ≤ 1048576) (hm : w.cell? ⟨0, 0, none⟩ = some (.int .i64 m)) (hg : 0 < w.heap.size) :
    Calls Tryd.prog 15 #[.agg #[.int .i64 st, .string fr.loc, .string fr.dom, .slice A l.length c, .string tx, .bool lg]] w fun e w' => e = .returned (.int .i64 (sessFault st fr l tx lg)) ∧ Below w.heap.size w w' := by
  by_cases hbad : st < 0 ∨ 5 < st ∨ 5 < l.length ∨ 2000 < tx.size
  · rw [sess_no (fun h => by obtain ⟨h1, h2, h3, h4, _⟩ := h; omega)]
    exact lmtpCheck_bad st fr A c l tx lg w hbad
  · have hl : l.length ≤ 5 := by omega
    have ht : tx.size ≤ 2000 := by omega
    rcases (by omega : (st = 0 ∨ st = 1 ∨ st = 5) ∨ st = 2 ∨ st = 3 ∨ st = 4) with h | rfl | rfl | rfl
    · exact lmtpCheck_015 st h fr A c l tx lg w hl ht
    · exact lmtpCheck_2 fr A c l tx lg w hl ht m ha hb hm hg
    · exact lmtpCheck_3 fr A c l tx lg w hr hlc hl ht m ha hb hs hm hg
    · exact lmtpCheck_4 fr A c l tx lg w hr hlc hl ht m ha hb hs hm hg
set_option maxHeartbeats 1000000 in
set_option maxRecDepth 100000 in
theorem refSession_calls (st : Int) (fr : AAddress) (A : Option Addr) (c : Nat) (l : List AAddress) (tx : ByteArray) (lg : Bool) (w : World) (hr : Kd.C kAAddress w A l.length l) (hlc : l.length ≤ c) (ha : fr.loc.size ≤ 1048576) (hb : fr.dom.size ≤ 1048576) (hs : ∀ x ∈ l, x.loc.size ≤ 1048576 ∧ x.dom.size ≤ 1048576) :
    Calls Tryd.prog 17 #[.agg #[.int .i64 st, .string fr.loc, .string fr.dom, .slice A l.length c, .string tx, .bool lg]] w fun e w' => e = .returned (.int .i64 (sessFault st fr l tx lg)) ∧ Below w.heap.size w w' := by
  by_cases hbad : st < 0 ∨ 5 < st ∨ 5 < l.length ∨ 2000 < tx.size
  · rw [sess_no (fun h => by obtain ⟨h1, h2, h3, h4, _⟩ := h; omega)]
    exact refSession_bad st fr A c l tx lg w hbad
  · have hl : l.length ≤ 5 := by omega
    have ht : tx.size ≤ 2000 := by omega
    by_cases h2 : 2 ≤ st ∧ st ≤ 4
    · by_cases h3 : st = 2
      · exact refSession_two st h3 fr A c l tx lg w hl ht ha hb
      · exact refSession_goes st (by omega) h2.2 fr A c l tx lg w hr hlc hl ht ha hb hs
    · exact refSession_none st (by omega) (by omega) h2 fr A c l tx lg w hl ht
set_option maxHeartbeats 1000000 in
set_option maxRecDepth 100000 in
theorem lmtpChecks_walk (st : Int) (fr : AAddress) (A : Option Addr) (c : Nat) (l : List AAddress) (tx : ByteArray) (lg : Bool) (w : World) (hr : Kd.C kAAddress w A l.length l) (hlc : l.length ≤ c) (hl : l.length ≤ 1048576) (m : Int) (ha : fr.loc.size ≤ 1048576) (hb : fr.dom.size ≤ 1048576) (hs : ∀ x ∈ l, x.loc.size ≤ 1048576 ∧ x.dom.size ≤ 1048576) (hm : w.cell? ⟨0, 0, none⟩ = some (.int .i64 m)) (hg : 0 < w.heap.size) :
    Calls Tryd.prog 3 #[.agg #[.int .i64 st, .string fr.loc, .string fr.dom, .slice A l.length c, .string tx, .bool lg]] w fun e w' => e = .returned (.bool true) ∧ Below w.heap.size w w' := by
  have H1 := fun A c w hr hlc hm hg => lmtpCheck_calls st fr A c l tx lg w hr hlc m ha hb hs hm hg
  have H2 := fun w hr => refSession_calls st fr A c l tx lg w hr hlc ha hb hs
  have H0 := fun w hr => sessions_calls st fr.loc fr.dom A c l tx lg w hr (by omega)
  generalize sessFault st fr l tx lg = r at *
  have H1 := Lib.hid H1
  have H2 := Lib.hid H2
  have H0 := Lib.hid H0
  go_enter Tryd.func3, Tryd.ntmps3
  go_wp2_with fail
  refine (H0.out _ (Kd.C_below hr (by repeat (first | exact Below.refl _ _ | apply below_alloc | apply pw_below_drewN | apply below_drew1 | (refine Below.setCell ?_ (by first | (simp; done) | (simp; omega) | omega) _) )))).mono ?_
  rintro e w1 ⟨v, rfl, hR, hb1⟩
  obtain ⟨hc_w1, hf_w1⟩ := bcell hb1
  have s_ := hb1.size
  (try simp at s_)
  (first | (have : w.heap.size < w1.heap.size := by omega) | skip)
  have : w.heap.size ≤ w1.heap.size := by omega
  clear s_
  have : w1.cell? ⟨w.heap.size, 0, none⟩ = some (.int .i64 st) := (by rw [hc_w1 _ _ (by first | (simp; done) | (simp; omega))]; first | (simp; done) | (simp [*]; done) | assumption | (simp [go_sem, *]; done)); have : w1.frozen? ⟨w.heap.size, 0, none⟩ = false := (by rw [hf_w1 _ _ (by first | (simp; done) | (simp; omega))]; first | (simp; done) | (simp [*]; done) | assumption | (simp [go_sem, *]; done)); have : w1.cell? ⟨w.heap.size, 1, none⟩ = some (.string fr.loc) := (by rw [hc_w1 _ _ (by first | (simp; done) | (simp; omega))]; first | (simp; done) | (simp [*]; done) | assumption | (simp [go_sem, *]; done)); have : w1.frozen? ⟨w.heap.size, 1, none⟩ = false := (by rw [hf_w1 _ _ (by first | (simp; done) | (simp; omega))]; first | (simp; done) | (simp [*]; done) | assumption | (simp [go_sem, *]; done)); have : w1.cell? ⟨w.heap.size, 2, none⟩ = some (.string fr.dom) := (by rw [hc_w1 _ _ (by first | (simp; done) | (simp; omega))]; first | (simp; done) | (simp [*]; done) | assumption | (simp [go_sem, *]; done)); have : w1.frozen? ⟨w.heap.size, 2, none⟩ = false := (by rw [hf_w1 _ _ (by first | (simp; done) | (simp; omega))]; first | (simp; done) | (simp [*]; done) | assumption | (simp [go_sem, *]; done)); have : w1.cell? ⟨w.heap.size, 3, none⟩ = some (.slice A l.length c) := (by rw [hc_w1 _ _ (by first | (simp; done) | (simp; omega))]; first | (simp; done) | (simp [*]; done) | assumption | (simp [go_sem, *]; done)); have : w1.frozen? ⟨w.heap.size, 3, none⟩ = false := (by rw [hf_w1 _ _ (by first | (simp; done) | (simp; omega))]; first | (simp; done) | (simp [*]; done) | assumption | (simp [go_sem, *]; done)); have : w1.cell? ⟨w.heap.size, 4, none⟩ = some (.string tx) := (by rw [hc_w1 _ _ (by first | (simp; done) | (simp; omega))]; first | (simp; done) | (simp [*]; done) | assumption | (simp [go_sem, *]; done)); have : w1.frozen? ⟨w.heap.size, 4, none⟩ = false := (by rw [hf_w1 _ _ (by first | (simp; done) | (simp; omega))]; first | (simp; done) | (simp [*]; done) | assumption | (simp [go_sem, *]; done)); have : w1.cell? ⟨w.heap.size, 5, none⟩ = some (.bool lg) := (by rw [hc_w1 _ _ (by first | (simp; done) | (simp; omega))]; first | (simp; done) | (simp [*]; done) | assumption | (simp [go_sem, *]; done)); have : w1.frozen? ⟨w.heap.size, 5, none⟩ = false := (by rw [hf_w1 _ _ (by first | (simp; done) | (simp; omega))]; first | (simp; done) | (simp [*]; done) | assumption | (simp [go_sem, *]; done))
  obtain ⟨A1, c1, rfl, hlc1, hr1⟩ := C_of hR
  go_wp2_with fail
  refine (H1.out A1 c1 _ hr1 hlc1 (cell_below (B := w.heap.size) (by repeat (first | exact Below.refl _ _ | apply below_alloc | apply pw_below_drewN | apply below_drew1 | (refine Below.setCell ?_ (by first | (simp; done) | (simp; omega) | omega) _) | (refine below_then ?_ (by first | (simp; done) | (simp; omega) | omega) hb1))) hm hg) (Nat.lt_of_lt_of_le hg (Below.size (show Below w.heap.size w _ from (by repeat (first | exact Below.refl _ _ | apply below_alloc | apply pw_below_drewN | apply below_drew1 | (refine Below.setCell ?_ (by first | (simp; done) | (simp; omega) | omega) _) | (refine below_then ?_ (by first | (simp; done) | (simp; omega) | omega) hb1))))))).mono ?_
  rintro e w2 ⟨rfl, hb2⟩
  obtain ⟨hc_w2, hf_w2⟩ := bcell hb2
  have s_ := hb2.size
  (try simp at s_)
  (first | (have : w.heap.size < w2.heap.size := by omega) | skip)
  have : w.heap.size ≤ w2.heap.size := by omega
  (first | (have : w1.heap.size < w2.heap.size := by omega) | skip)
  have : w1.heap.size ≤ w2.heap.size := by omega
  clear s_
  have : w2.cell? ⟨w.heap.size, 0, none⟩ = some (.int .i64 st) := (by rw [hc_w2 _ _ (by first | omega | (simp; done) | (simp; omega))]; first | (simp; done) | (simp [*]; done) | assumption | (simp [go_sem, *]; done)); have : w2.frozen? ⟨w.heap.size, 0, none⟩ = false := (by rw [hf_w2 _ _ (by first | omega | (simp; done) | (simp; omega))]; first | (simp; done) | (simp [*]; done) | assumption | (simp [go_sem, *]; done)); have : w2.cell? ⟨w.heap.size, 1, none⟩ = some (.string fr.loc) := (by rw [hc_w2 _ _ (by first | omega | (simp; done) | (simp; omega))]; first | (simp; done) | (simp [*]; done) | assumption | (simp [go_sem, *]; done)); have : w2.frozen? ⟨w.heap.size, 1, none⟩ = false := (by rw [hf_w2 _ _ (by first | omega | (simp; done) | (simp; omega))]; first | (simp; done) | (simp [*]; done) | assumption | (simp [go_sem, *]; done)); have : w2.cell? ⟨w.heap.size, 2, none⟩ = some (.string fr.dom) := (by rw [hc_w2 _ _ (by first | omega | (simp; done) | (simp; omega))]; first | (simp; done) | (simp [*]; done) | assumption | (simp [go_sem, *]; done)); have : w2.frozen? ⟨w.heap.size, 2, none⟩ = false := (by rw [hf_w2 _ _ (by first | omega | (simp; done) | (simp; omega))]; first | (simp; done) | (simp [*]; done) | assumption | (simp [go_sem, *]; done)); have : w2.cell? ⟨w.heap.size, 3, none⟩ = some (.slice A l.length c) := (by rw [hc_w2 _ _ (by first | omega | (simp; done) | (simp; omega))]; first | (simp; done) | (simp [*]; done) | assumption | (simp [go_sem, *]; done)); have : w2.frozen? ⟨w.heap.size, 3, none⟩ = false := (by rw [hf_w2 _ _ (by first | omega | (simp; done) | (simp; omega))]; first | (simp; done) | (simp [*]; done) | assumption | (simp [go_sem, *]; done)); have : w2.cell? ⟨w.heap.size, 4, none⟩ = some (.string tx) := (by rw [hc_w2 _ _ (by first | omega | (simp; done) | (simp; omega))]; first | (simp; done) | (simp [*]; done) | assumption | (simp [go_sem, *]; done)); have : w2.frozen? ⟨w.heap.size, 4, none⟩ = false := (by rw [hf_w2 _ _ (by first | omega | (simp; done) | (simp; omega))]; first | (simp; done) | (simp [*]; done) | assumption | (simp [go_sem, *]; done)); have : w2.cell? ⟨w.heap.size, 5, none⟩ = some (.bool lg) := (by rw [hc_w2 _ _ (by first | omega | (simp; done) | (simp; omega))]; first | (simp; done) | (simp [*]; done) | assumption | (simp [go_sem, *]; done)); have : w2.frozen? ⟨w.heap.size, 5, none⟩ = false := (by rw [hf_w2 _ _ (by first | omega | (simp; done) | (simp; omega))]; first | (simp; done) | (simp [*]; done) | assumption | (simp [go_sem, *]; done))
  go_wp2_with fail
  refine (H2.out _ (Kd.C_below hr (by repeat (first | exact Below.refl _ _ | apply below_alloc | apply pw_below_drewN | apply below_drew1 | (refine Below.setCell ?_ (by first | (simp; done) | (simp; omega) | omega) _) | (refine below_then ?_ (by first | (simp; done) | (simp; omega) | omega) hb2) | (refine below_then ?_ (by first | (simp; done) | (simp; omega) | omega) hb1))))).mono ?_
  rintro e w3 ⟨rfl, hb3⟩
  go_wp2_with fail
  go_ret
  exact ⟨(by first | rfl | (simp; done) | (simp [*]; done) | (rw [if_pos (by omega)]; first | rfl | (simp; done)) | (rw [if_neg (by omega)]; first | rfl | (simp; done)) | (simp; omega)), (by repeat (first | exact Below.refl _ _ | apply below_alloc | apply pw_below_drewN | apply below_drew1 | (refine Below.setCell ?_ (by first | (simp; done) | (simp; omega) | omega) _) | (refine below_then ?_ (by first | (simp; done) | (simp; omega) | omega) hb3) | (refine below_then ?_ (by first | (simp; done) | (simp; omega) | omega) hb2) | (refine below_then ?_ (by first | (simp; done) | (simp; omega) | omega) hb1)))⟩
end Go.Proofs.YtpeenmbonhijmaaDoor.H
namespace Go.Proofs.YtpeenmbonhijmaaDoor.lmtpChecks
open Go.ChangeShapes Go.WideShapes Go.ChangeAt Go.RowKit Go.Proofs.YtpeenmbonhijmaaDoorW.PrintWords Go.Proofs.YtpeenmbonhijmaaDoor.U Go.Proofs.YtpeenmbonhijmaaDoor.UB Go.Proofs.YtpeenmbonhijmaaDoor.H
open Go.ChangeMaps (open_string shut_string)
set_option linter.unusedVariables false
set_option maxRecDepth 100000
theorem own : ownKnob Tryd.prog.godebug = none := by kernel_rfl
theorem laidOut : laidOutB Tryd.prog = true := by kernel_rfl
def okAAddress (x : AAddress) : Prop := x.loc.size ≤ bulkTop ∧ x.dom.size ≤ bulkTop
theorem opens_AAddress {n : Nat} : OpensN Tryd.prog n 23 kAAddress okAAddress := by
  intro H enc W base spare held cs x h hm
  obtain ⟨⟨a0, a1⟩, hk, ⟨h0_, h1_⟩⟩ := (opens_struct Tryd.underlying23 (len := 2) (by kernel_rfl) (fun _ _ => (opensF_cons rfl (by kernel_rfl) (opens_string Tryd.underlying9) (opensF_one rfl (by kernel_rfl) (opens_string Tryd.underlying9))))) enc W base spare held cs x h hm
  obtain ⟨_, _, rfl, rfl, rfl⟩ := hk
  exact ⟨⟨a0, a1⟩, rfl, h0_, h1_⟩
def kSession : Kd (Int × AAddress × List AAddress × ByteArray × Bool) := Kd.pair (Kd.int .i64) (Kd.pair kAAddress (Kd.pair (Kd.slice 23 kAAddress) (Kd.pair Kd.string Kd.bool)))
theorem opens : Opens Tryd.prog 26 kSession (fun y => (Lit.int .i64 y.1).wf = true ∧ okAAddress y.2.1 ∧ (y.2.2.1.length ≤ bulkTop ∧ ∀ b ∈ y.2.2.1, okAAddress b) ∧ y.2.2.2.1.size ≤ bulkTop ∧ True) := fun n =>
  opens_struct Tryd.underlying26 (len := 6) (by kernel_rfl) (fun m _ => opensF_cons rfl (by kernel_rfl) (opens_int Tryd.underlying3) (opensF_cons rfl (by kernel_rfl) opens_AAddress (opensF_cons rfl (by kernel_rfl) (opens_slice Tryd.underlying24 (by kernel_rfl) (fun _ _ => opens_AAddress))
    (opensF_cons rfl (by kernel_rfl) (opens_string Tryd.underlying9) (opensF_one rfl (by kernel_rfl) (opens_bool Tryd.underlying4))))))
set_option maxRecDepth 100000 in
theorem lifted (os : Os) (started : os.Started) (H : Type) (enc : TypeId × Value → H) (F : Stop.Interp) :
    ReturnsInHanded {} Tryd.checked os 3 .any ((Rows.OpenSpec.upto Rows.lmtpChecksSpec).preRow enc Tryd.prog Tryd.f3 Rows.lmtpChecksUptoRow.domain false Rows.lmtpChecksUptoRow.laid) (((Rows.OpenSpec.upto Rows.lmtpChecksSpec).at F).post enc Tryd.prog Tryd.f3 false true false false) := by
  refine returnsInHanded_of_row (C := Tryd.checked) (s := Rows.OpenSpec.upto Rows.lmtpChecksSpec) own started (by kernel_rfl) Tryd.func3
    (witness_up (enc := enc) (C := Tryd.checked) (s := Rows.OpenSpec.upto Rows.lmtpChecksSpec) (laid := Rows.lmtpChecksUptoRow.laid) os #[.agg #[.int .i64 0, .string ByteArray.empty, .string ByteArray.empty, .slice none 0 0, .string ByteArray.empty, .bool false]] 8 (World.shaped_of_ZipB (by kernel_rfl) (by kernel_rfl)) (by kernel_rfl) ([.agg [.lit (.int .i64 0), .agg [.lit (.string []), .lit (.string [])], .nil, .lit (.string []), .lit (.bool false)]], [], []) (by kernel_rfl) (by kernel_rfl)
      (fun k hk => by cases hk; kernel_rfl) (by kernel_rfl)
      (by rw [MakeChecks.laidMetH_plain _ _ _ (by kernel_rfl)]; exact laidMet_laidAll _ (by kernel_rfl) (by kernel_rfl))) ?_
  intro W base args ds gs before hval0 hW hcnd hcond hsz hL hsh _
  have hk : Rows.uptoSmall H (ds ++ gs) = true := hcond _ rfl
  have hval : ∀ (j : Nat) t v, Tryd.f3.params[j]? = some t → args[j]? = some v → Value.okWide Tryd.prog W .any base t v := hval0
  have hW' := hW
  obtain ⟨p, q, hA0, hV, rfl, hfz, hnd⟩ := hW
  have hA : DataW.TrodAll enc Tryd.prog W 0 (fun _ => true) true Tryd.f3.params.toList args.toList ds p := hA0
  rw [Tryd.params3] at hA hval
  rw [MakeChecks.laidMetH_plain _ _ _ (by kernel_rfl)] at hL
  obtain ⟨ps, hL, hLn, hLc⟩ := hL
  obtain ⟨v0, vs0, d0, ds0, p0, q0, hargs, rfl, rfl, h0, r0⟩ := trodAll_cons hA
  obtain ⟨rfl, rfl, rfl⟩ := trodAll_nil r0
  obtain rfl : args = #[v0] := by cases args; simp_all
  obtain ⟨rfl, rfl⟩ := trodVars_none hV
  have lt0 : ∀ x ∈ p0, x.block < W.heap.size := by obtain ⟨m, hm⟩ := h0; exact DataW.trod_lt m _ _ _ hm
  obtain ⟨⟨st, fr, l, tx, lg⟩, cs, rfl, ⟨_, _, hcs, rfl, ⟨_, _, rfl, h2, ⟨_, _, rfl, ⟨A, c, rfl, hl, hr⟩, ⟨_, _, rfl, rfl, rfl⟩⟩⟩⟩, ⟨_, hfr, ⟨hlen, hall⟩, _, _⟩⟩ := arg_struct Tryd.underlying26 (hval 0 _ v0 rfl rfl) h0 (bulk_arg hk (j := 0) rfl) opens
  obtain rfl : cs = #[.int .i64 st, .string fr.loc, .string fr.dom, .slice A l.length c, .string tx, .bool lg] := by
    have h2' : _ = fr.enc := h2
    subst h2'
    cases cs; simpa [AAddress.enc] using hcs
  obtain ⟨m, hm⟩ := cell_of_shapedOpen_int (g := 0) (zero := #[.int .i64 0]) hsh (of_decide_eq_true (by kernel_rfl)) (by kernel_rfl) (by kernel_rfl) (by kernel_rfl) (by kernel_rfl) Tryd.underlying3
  refine (lmtpChecks_walk st fr A c l tx lg W hr hl hlen m hfr.1 hfr.2 hall hm (lt_of_cell hm)).mono fun e W' ⟨he, bel⟩ => ?_
  subst he
  refine ⟨_, rfl, _, _, _, [], _, [], hW', trodAll_mk1 (shut_bool Tryd.underlying4 _), (trodAll_cons_mk (Below.trod laidOut (by kernel_rfl) (of_decide_eq_true (by kernel_rfl)) h0 bel lt0) trodAll_mk0), rfl, bel.frame _, fun h => by cases h⟩
theorem over : Rows.lmtpChecksUptoRow.holds Tryd.pinned (Rows.OpenSpec.upto Rows.lmtpChecksSpec) :=
  OpenClaim.holds_of_cond 3 Tryd.f3 rfl rfl rfl rfl rfl rfl rfl ⟨rfl, rfl, rfl, rfl, rfl⟩ rfl rfl rfl rfl rfl (by kernel_rfl) Tryd.func3 (by kernel_rfl)
    (of_decide_eq_true (by kernel_rfl)) (by unfold Func.isWrapper; first | (rw [if_pos (by decide +kernel)]; kernel_rfl) | (rw [if_neg (by decide +kernel)]; exact ⟨rfl, rfl⟩))
    (fun os started H enc _ F => by rw [OpenClaim.pre_eq_preRow]; exact lifted os started H enc F)
theorem card : Rows.LmtpChecksUptoCardSaid :=
  Claim7.holds_tied_plain_at .later [] _ _ _ _ over (fun _ h => by cases h) (by kernel_rfl) (fun _ h => by cases h) lmtpChecksUpto_row_tie rfl ⟨rfl, rfl⟩ (by kernel_rfl) rfl
    (fun f fn hf hfn => by
      obtain rfl : f = 3 := Option.some.inj ((show Tryd.prog.funcNamed "postroom/postroomlaw.LmtpChecks" = some 3 by kernel_rfl).symm.trans hf) |>.symm
      obtain rfl : fn = Tryd.f3 := (Option.some.inj (Tryd.func3.symm.trans hfn)).symm
      exact ⟨by kernel_rfl, fun j t ht => by
        have hm : t ∈ Tryd.f3.params.toList := by simpa using Array.mem_of_getElem? ht
        have hall : (Tryd.f3.params.toList.all fun u => !Tryd.prog.wantsStandIn u) = true := by kernel_rfl
        exact (show Tryd.prog.wantsStandIn t = false by simpa using List.all_eq_true.1 hall t hm)⟩)
    (by kernel_rfl)
end Go.Proofs.YtpeenmbonhijmaaDoor.lmtpChecks
namespace Go.Proofs.YtpeenmbonhijmaaDoor
theorem lmtpChecks_holds : Rows.LmtpChecksUptoCardSaid := lmtpChecks.card
#print axioms lmtpChecks_holds
end Go.Proofs.YtpeenmbonhijmaaDoor
