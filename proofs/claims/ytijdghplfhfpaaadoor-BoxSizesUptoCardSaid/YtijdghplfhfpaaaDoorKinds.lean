/- The flat structs of package api: Lean structures, their cells, their kinds. -/
import Derived.Test.YtijdghplfhfpaaaDoorU
import Derived.Test.YtijdghplfhfpaaaDoorProg
namespace Go.Proofs.YtijdghplfhfpaaaDoor.H
open Go.RowKit Go.Proofs.YtijdghplfhfpaaaDoorW.PrintWords Go.Proofs.YtijdghplfhfpaaaDoorW.PrintLast Go.Proofs.YtijdghplfhfpaaaDoorW.PrintMore Go.Proofs.YtijdghplfhfpaaaDoor.U
set_option linter.unusedVariables false
set_option linter.unusedSimpArgs false
structure AField where
  name : ByteArray
  value : ByteArray
def AField.enc (x : AField) : List Value := [.string x.name, .string x.value]
def kAField : Kd AField := flatKd 2 AField.enc (fun _ => rfl) (fun x u hu => by simp only [AField.enc, List.mem_cons, List.mem_nil_iff, or_false] at hu; rcases hu with rfl | rfl <;> rfl)
structure AAddress where
  loc : ByteArray
  dom : ByteArray
def AAddress.enc (x : AAddress) : List Value := [.string x.loc, .string x.dom]
def kAAddress : Kd AAddress := flatKd 2 AAddress.enc (fun _ => rfl) (fun x u hu => by simp only [AAddress.enc, List.mem_cons, List.mem_nil_iff, or_false] at hu; rcases hu with rfl | rfl <;> rfl)
structure AToken where
  kind : Int
  text : ByteArray
  number : Int
def AToken.enc (x : AToken) : List Value := [.int .i64 x.kind, .string x.text, .int .i64 x.number]
def kAToken : Kd AToken := flatKd 3 AToken.enc (fun _ => rfl) (fun x u hu => by simp only [AToken.enc, List.mem_cons, List.mem_nil_iff, or_false] at hu; rcases hu with rfl | rfl | rfl <;> rfl)
structure ALetter where
  from_ : AAddress
  to_ : AAddress
  text : ByteArray
def ALetter.enc (x : ALetter) : List Value := [.string x.from_.loc, .string x.from_.dom, .string x.to_.loc, .string x.to_.dom, .string x.text]
def kALetter : Kd ALetter := flatKd 5 ALetter.enc (fun _ => rfl) (fun x u hu => by simp only [ALetter.enc, List.mem_cons, List.mem_nil_iff, or_false] at hu; rcases hu with rfl | rfl | rfl | rfl | rfl <;> rfl)
structure AAction where
  kind : Int
  text : ByteArray
  flags : Int
def AAction.enc (x : AAction) : List Value := [.int .i64 x.kind, .string x.text, .int .i64 x.flags]
def kAAction : Kd AAction := flatKd 3 AAction.enc (fun _ => rfl) (fun x u hu => by simp only [AAction.enc, List.mem_cons, List.mem_nil_iff, or_false] at hu; rcases hu with rfl | rfl | rfl <;> rfl)
structure AMail where
  uid : Int
  flags : Int
  text : ByteArray
def AMail.enc (x : AMail) : List Value := [.int .i64 x.uid, .int .i64 x.flags, .string x.text]
def kAMail : Kd AMail := flatKd 3 AMail.enc (fun _ => rfl) (fun x u hu => by simp only [AMail.enc, List.mem_cons, List.mem_nil_iff, or_false] at hu; rcases hu with rfl | rfl | rfl <;> rfl)
structure AEntry where
  kind : Int
  box : ByteArray
  uid : Int
  flags : Int
  to_ : ByteArray
  text : ByteArray
def AEntry.enc (x : AEntry) : List Value := [.int .i64 x.kind, .string x.box, .int .i64 x.uid, .int .i64 x.flags, .string x.to_, .string x.text]
def kAEntry : Kd AEntry := flatKd 6 AEntry.enc (fun _ => rfl) (fun x u hu => by simp only [AEntry.enc, List.mem_cons, List.mem_nil_iff, or_false] at hu; rcases hu with rfl | rfl | rfl | rfl | rfl | rfl <;> rfl)
structure AUser where
  loc : ByteArray
  script : ByteArray
def AUser.enc (x : AUser) : List Value := [.string x.loc, .string x.script]
def kAUser : Kd AUser := flatKd 2 AUser.enc (fun _ => rfl) (fun x u hu => by simp only [AUser.enc, List.mem_cons, List.mem_nil_iff, or_false] at hu; rcases hu with rfl | rfl <;> rfl)
structure AAct where
  kind : Int
  conn : Int
  user : Int
  keep : Int
  data : ByteArray
  entry : AEntry
def AAct.enc (x : AAct) : List Value := [.int .i64 x.kind, .int .i64 x.conn, .int .i64 x.user, .int .i64 x.keep, .string x.data, .int .i64 x.entry.kind, .string x.entry.box, .int .i64 x.entry.uid, .int .i64 x.entry.flags, .string x.entry.to_, .string x.entry.text]
def kAAct : Kd AAct := flatKd 11 AAct.enc (fun _ => rfl) (fun x u hu => by simp only [AAct.enc, List.mem_cons, List.mem_nil_iff, or_false] at hu; rcases hu with rfl | rfl | rfl | rfl | rfl | rfl | rfl | rfl | rfl | rfl | rfl <;> rfl)
structure ABit where
  text : ByteArray
  run : Bool
  quoted : Bool
  apart : Bool
def ABit.enc (x : ABit) : List Value := [.string x.text, .bool x.run, .bool x.quoted, .bool x.apart]
def kABit : Kd ABit := flatKd 4 ABit.enc (fun _ => rfl) (fun x u hu => by simp only [ABit.enc, List.mem_cons, List.mem_nil_iff, or_false] at hu; rcases hu with rfl | rfl | rfl | rfl <;> rfl)
def eqbAEntry (x y : AEntry) : Bool := x.kind == y.kind && (x.box.toList == y.box.toList && (x.uid == y.uid && (x.flags == y.flags && (x.to_.toList == y.to_.toList && (x.text.toList == y.text.toList)))))
theorem eqbAEntry_iff {x y : AEntry} : eqbAEntry x y = true ↔ x = y := by
  cases x; cases y
  simp only [eqbAEntry, Bool.and_eq_true, beq_iff_eq, ByteArray.toList_eq, bytes_iff, AEntry.mk.injEq]
theorem eqbAEntry_self (x : AEntry) : eqbAEntry x x = true := eqbAEntry_iff.2 rfl
theorem eqAEntry (d : Nat) (w : World) (x_kind : Int) (x_box : ByteArray) (x_uid : Int) (x_flags : Int) (x_to_ : ByteArray) (x_text : ByteArray) (y_kind : Int) (y_box : ByteArray) (y_uid : Int) (y_flags : Int) (y_to_ : ByteArray) (y_text : ByteArray) :
    (Op.equalIn (d + 2) 40 (.agg #[.int .i64 x_kind, .string x_box, .int .i64 x_uid, .int .i64 x_flags, .string x_to_, .string x_text]) (.agg #[.int .i64 y_kind, .string y_box, .int .i64 y_uid, .int .i64 y_flags, .string y_to_, .string y_text])).run Tryd.prog w = .ok (eqbAEntry ⟨x_kind, x_box, x_uid, x_flags, x_to_, x_text⟩ ⟨y_kind, y_box, y_uid, y_flags, y_to_, y_text⟩) w := by
  refine eqA_of Tryd.underlying40 (by kernel_rfl) ?_
  refine eqf_cons (by rfl) (by go_simp; rfl) (by go_simp; rfl) (by go_simp) ?_
  refine eqf_cons (by rfl) (by go_simp; rfl) (by go_simp; rfl) (by go_simp) ?_
  refine eqf_cons (by rfl) (by go_simp; rfl) (by go_simp; rfl) (by go_simp) ?_
  refine eqf_cons (by rfl) (by go_simp; rfl) (by go_simp; rfl) (by go_simp) ?_
  refine eqf_cons (by rfl) (by go_simp; rfl) (by go_simp; rfl) (by go_simp) ?_
  exact eqf_last (by rfl) (by go_simp; rfl) (by go_simp; rfl) (by go_simp)
end Go.Proofs.YtijdghplfhfpaaaDoor.H
