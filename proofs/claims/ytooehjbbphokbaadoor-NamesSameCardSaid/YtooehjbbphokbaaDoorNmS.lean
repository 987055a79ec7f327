/- Names in great letters, with blanks and strokes: the closed facts of the table; the contracts of ToUpper and ReplaceAll as the law calls them. -/
import Derived.Test.YtooehjbbphokbaaDoorNmY
import Derived.Test.YtooehjbbphokbaaDoorShelfU
namespace Go.Proofs.YtooehjbbphokbaaDoor
set_option linter.unusedVariables false
set_option linter.unusedSimpArgs false
open Go.RowKit Go.Proofs.YtooehjbbphokbaaDoorW.PrintWords Go.Proofs.YtooehjbbphokbaaDoorW.PrintLast Go.Proofs.YtooehjbbphokbaaDoorW.PrintMore

def aheadN (f : List ByteArray) : ByteArray := if eqB (cellB f 0) ⟨#[98, 105]⟩ = true then ⟨#[]⟩ else cellB f 0 ++ ⟨#[32, 61, 32]⟩
def strokeB (s : ByteArray) : ByteArray := ⟨(Lib.replaceAll s.data.toList [95] [45]).toArray⟩
def greatB (s : ByteArray) : ByteArray := ⟨(Lib.toUpperA s.data.toList).toArray⟩
def nameA (f : List ByteArray) : ByteArray := aheadN f ++ cellB f 1
def nameB (f : List ByteArray) : ByteArray := aheadN f ++ ⟨#[32, 105, 115, 95]⟩ ++ greatB (strokeB (cellB f 2))
def sameRow (R : List (List ByteArray)) (f : List ByteArray) : Bool := eqB (cellB f 0) ⟨#[112, 114]⟩ || ((resolveL R (nameA f)).1 == (resolveL R (nameB f)).1 && eqB (resolveL R (nameA f)).2.1 (cellB f 1) && eqB (resolveL R (nameB f)).2.1 (cellB f 1) && (resolveL R (nameA f)).2.2 == 0 && (resolveL R (nameB f)).2.2 == 0)
def asciiRow (f : List ByteArray) : Bool := ((strokeB (cellB f 2)).data.toList.all fun b => decide (b.toNat < 128)) && decide (Lib.countB (cellB f 2) ⟨#[95]⟩ < 1000) && decide ((nameA f).size < 10000) && decide ((nameB f).size < 10000) && decide ((strokeB (cellB f 2)).size < 10000)
def sameOk (R : List (List ByteArray)) : Bool := (R.all fun f => sameRow R f && asciiRow f) && !R.isEmpty

set_option maxHeartbeats 8000000 in
set_option maxRecDepth 100000 in
theorem alias_same : ∃ b, AliasIs b ∧ sameOk (rowsB b) = true := by
  refine ⟨((Tryd.f35.body).bind textCode).getD ByteArray.empty, ⟨fun w => ?_, of_decide_eq_true (by kernel_rfl), by kernel_rfl, by kernel_rfl, by kernel_rfl⟩, by kernel_rfl⟩
  go_enter Tryd.func35, Tryd.ntmps35
  go_wp2
  go_ret
  exact ⟨congrArg (fun b => Ending.returned (.string b)) (by kernel_rfl), Below.refl _ _⟩
theorem stroke_any (s : ByteArray) (m : Int) (w : World) (hm : MaxIs w m) (hs : s.size < 1000) (hc : Lib.countB s ⟨#[95]⟩ < 1000) :
    Calls Tryd.prog 37 #[.string s, .string ⟨#[95]⟩, .string ⟨#[45]⟩] w fun e w' => e = .returned (.string (strokeB s)) ∧ Below w.heap.size w w' :=
  Tryd.strings_ReplaceAll s ⟨#[95]⟩ ⟨#[45]⟩ m w (by omega) hm (Nat.le_refl 1) (by show s.size + Lib.countB s ⟨#[95]⟩ * 1 ≤ _; omega)
theorem great_any (s : ByteArray) (w : World) (hs : s.size < 10000) (ha : (s.data.toList.all fun b => decide (b.toNat < 128)) = true) :
    Calls Tryd.prog 36 #[.string s] w fun e w' => e = .returned (.string (greatB s)) ∧ Below w.heap.size w w' :=
  Tryd.strings_ToUpper_ascii s w (by omega) (fun j b hj => by
    rw [List.all_eq_true] at ha
    exact of_decide_eq_true (ha b (List.mem_of_getElem? hj)))

end Go.Proofs.YtooehjbbphokbaaDoor
