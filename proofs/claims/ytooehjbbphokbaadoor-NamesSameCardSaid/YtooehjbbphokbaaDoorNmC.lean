/- Names: what a table of names answers (the plain law); the table of the program. -/
import Derived.Test.YtooehjbbphokbaaDoorNmB
import Derived.Test.YtooehjbbphokbaaDoorLnT
namespace Go.Proofs.YtooehjbbphokbaaDoor
set_option linter.unusedVariables false
set_option linter.unusedSimpArgs false
open Go.RowKit Go.Proofs.YtooehjbbphokbaaDoorW.PrintWords Go.Proofs.YtooehjbbphokbaaDoorW.PrintLast Go.Proofs.YtooehjbbphokbaaDoorW.PrintMore

def eqB (a b : ByteArray) : Bool := a.data.toList == b.data.toList
theorem eqB_iff {a b : ByteArray} : eqB a b = true ↔ a = b := by
  unfold eqB
  rw [beq_iff_eq]
  constructor
  · intro h
    rw [← bsL_data a, ← bsL_data b, h]
  · rintro rfl
    rfl
theorem eqB_self (a : ByteArray) : eqB a a = true := eqB_iff.2 rfl
theorem eqB_ne {a b : ByteArray} (h : a ≠ b) : eqB a b = false := Bool.eq_false_iff.2 (fun e => h (eqB_iff.1 e))
def cellB (f : List ByteArray) (i : Nat) : ByteArray := f.getD i ByteArray.empty
def rowHit (kind want : ByteArray) (f : List ByteArray) : Bool := eqB (cellB f 0) kind && (f.drop 1).any (fun n => eqB (looseB n) want)
def findL (kind want : ByteArray) : List (List ByteArray) → Option ByteArray
  | [] => none
  | f :: r => if rowHit kind want f = true then some (cellB f 1) else findL kind want r
def numB (k : ByteArray) : Int := if k.toList = ([103, 99] : List UInt8) then 1 else if k.toList = ([115, 99] : List UInt8) then 2 else 3
def idxL : List UInt8 → Option Nat
  | [] => none
  | b :: l => if b = 61 ∨ b = 58 then some 0 else (idxL l).map (· + 1)
def errN : Int × ByteArray × Int := (0, ByteArray.empty, 50)
def errV : Int × ByteArray × Int := (0, ByteArray.empty, 51)
def valL (R : List (List ByteArray)) (kind s : ByteArray) : Int × ByteArray × Int := match findL kind (looseB s) R with
  | none => errV
  | some v => (numB kind, v, 0)
def keyL (R : List (List ByteArray)) (a s : ByteArray) : Int × ByteArray × Int := match findL ⟨#[112, 114]⟩ (looseB a) R with
  | none => errN
  | some k => valL R k s
def bareL (R : List (List ByteArray)) (s : ByteArray) : List ByteArray → Int × ByteArray × Int
  | [] => errN
  | k :: r => match findL k (looseB s) R with
    | none => bareL R s r
    | some v => (numB k, v, 0)
def kindsL : List ByteArray := [⟨#[103, 99]⟩, ⟨#[98, 105]⟩, ⟨#[115, 99]⟩]
def resolveL (R : List (List ByteArray)) (s : ByteArray) : Int × ByteArray × Int := match idxL s.data.toList with
  | some i => keyL R (s.extract 0 i) (s.extract (i + 1) s.size)
  | none => bareL R s kindsL
def longHit (kind : Int) (v : ByteArray) (f : List ByteArray) : Bool := !eqB (cellB f 0) ⟨#[112, 114]⟩ && decide (numB (cellB f 0) = kind) && eqB (cellB f 1) v
def longL (kind : Int) (v : ByteArray) : List (List ByteArray) → Option ByteArray
  | [] => none
  | f :: r => if longHit kind v f = true then some (cellB f 2) else longL kind v r

/-- The text that the program's code holds: the last one that a region assigns. -/
def textOp : List Oper → Option ByteArray
  | [] => none
  | o :: r => match textOp r with
    | some b => some b
    | none => match o.op with
      | .assign (.const (.string b)) => some b
      | _ => none
def textCode : Code → Option ByteArray
  | .seq a b => match textCode b with
    | some x => some x
    | none => textCode a
  | .region _ ops _ => textOp ops.toList
  | _ => none
/-- Each row has three cells, of few bytes; the middle one is not empty. -/
def rowsOk (R : List (List ByteArray)) : Bool := R.all fun f => f.length == 3 && f.all (fun x => decide (x.size < 1000)) && !(cellB f 1).data.toList.isEmpty
def awakeB : ByteArray := ⟨#[103, 101, 110, 101, 114, 97, 108, 32, 99, 97, 116, 101, 103, 111, 114, 121, 32, 61, 32, 117, 112, 112, 101, 114, 99, 97, 115, 101, 45, 108, 101, 116, 116, 101, 114]⟩
def awakeOk (R : List (List ByteArray)) : Bool := (resolveL R awakeB).1 == 1 && eqB (resolveL R awakeB).2.1 ⟨#[76, 117]⟩ && (resolveL R awakeB).2.2 == 0
def aheadB (n : Int) : ByteArray := if n = 1 then ⟨#[103, 99, 61]⟩ else if n = 2 then ⟨#[115, 99, 61]⟩ else ByteArray.empty
/-- Each value has a long name, which names it; each property is a kind. -/
def backRow (R : List (List ByteArray)) (f : List ByteArray) : Bool := match longL (numB (cellB f 0)) (cellB f 1) R with
  | none => false
  | some l => (resolveL R (aheadB (numB (cellB f 0)) ++ l)).1 == numB (cellB f 0) && eqB (resolveL R (aheadB (numB (cellB f 0)) ++ l)).2.1 (cellB f 1) && (resolveL R (aheadB (numB (cellB f 0)) ++ l)).2.2 == 0
def backOk (R : List (List ByteArray)) : Bool := (R.all fun f => !kindsL.any (fun k => eqB (cellB f 0) k) || backRow R f) && R.all fun f => !eqB (cellB f 0) ⟨#[112, 114]⟩ || kindsL.any (fun k => eqB (cellB f 1) k)
/-- The text of api.Aliases, and what is known of its rows. -/
def AliasIs (b : ByteArray) : Prop := (∀ w, Calls Tryd.prog 35 #[] w fun e w' => e = .returned (.string b) ∧ Below w.heap.size w w') ∧ b.size < 4294967281 ∧ rowsOk (rowsB b) = true ∧ awakeOk (rowsB b) = true ∧ backOk (rowsB b) = true

set_option maxHeartbeats 8000000 in
set_option maxRecDepth 100000 in
theorem alias_ex : ∃ b, AliasIs b := by
  refine ⟨((Tryd.f35.body).bind textCode).getD ByteArray.empty, fun w => ?_, of_decide_eq_true (by kernel_rfl), by kernel_rfl, by kernel_rfl, by kernel_rfl⟩
  go_enter Tryd.func35, Tryd.ntmps35
  go_wp2
  go_ret
  exact ⟨congrArg (fun b => Ending.returned (.string b)) (by kernel_rfl), Below.refl _ _⟩

end Go.Proofs.YtooehjbbphokbaaDoor
