/-
  No cell of these rows narrows 'for every input' (looked for: loops, veiled, ifaces, maps, wideKeys, modest, calm, conditions, laid).
  DERIVED. THE GIVEN ROWS OF THIS SEAT. 12 by the template 'for every input the law returns true; each argument reads behind the call as it read before'; 0 by the template 'total and deterministic' (their statements: YtpgnfccamcefgaaTotals.lean).
  GIVEN WITH THE SEED: the statements are not yours to turn. If you find one false, say at which input.
  Laid BY PROGRAM, IN A SANDBOX (cutbox-rows.mjs): the forced cells as the released guide's own fill.sh prints them over the translation a12f055b01f06da2… (all of the seat's roots in one cut). By AI agents, Wed Nov 11 2026. No macro, syntax, notation, axiom, sorry.
-/
import Derived.Test.YtpgnfccamcefgaaChecked
import GoSem.Claim
import GoSem.ClaimJoined
import GoSem.ClaimMapViews
import Derived.JoinedTies
import Derived.KernelRfl
namespace Go.Proofs.Ytpgnfccamcefgaa
/- THE CELL 'sum', in the pinned program and in every row, IS THE sha256 OF THE DUMP (.gsa) THAT YtpgnfccamcefgaaProg.lean LOADS. Nothing in Lean hashes anything: it is a label: what it is worth is what the hold of that sum in a sandbox is worth. -/
noncomputable def Try.pinned : Pinned := { name := "ytpgnfccamcefgaa", sum := "a12f055b01f06da216bc8a71c054e42e547012fd083ce6302f757f91ab37c24d", checked := Try.checked }
namespace Rows
def none {H : Type} : Left H := { results := [], args := [] }

/-- 'rubricatorlaw22.EditExpand': WHATEVER THE INPUT: true; the input reads as it did. -/
def editExpandSpec : ChangeSpec := { name := "editExpand", fn := fun _ => fun
  | [d1, d2, d3] => { results := [.lit (.bool true)], args := [d1, d2, d3] }
  | _ => none }
def editExpandRow : OpenClaim := { program := "ytpgnfccamcefgaa", sum := "a12f055b01f06da216bc8a71c054e42e547012fd083ce6302f757f91ab37c24d", func := "rubricator/rubricatorlaw22.EditExpand", spec := "editExpand", apart := false }
def EditExpandSaid : Prop := editExpandRow.holds Try.pinned (OpenSpec.ofChange editExpandSpec)

/-- ITS FALSE NEIGHBOUR: 'it returns false'. Refute it at one input. -/
def editExpandWrong : ChangeSpec := { name := "editExpand", fn := fun _ => fun
  | [d1, d2, d3] => { results := [.lit (.bool false)], args := [d1, d2, d3] }
  | _ => none }
def EditExpandWrongFalsely : Prop := editExpandRow.holds Try.pinned (OpenSpec.ofChange editExpandWrong)

/-- 'rubricatorlaw04.TrieLast': WHATEVER THE INPUT: true; the input reads as it did. -/
def trieLastSpec : ChangeSpec := { name := "trieLast", fn := fun _ => fun
  | [d1, d2, d3, d4] => { results := [.lit (.bool true)], args := [d1, d2, d3, d4] }
  | _ => none }
def trieLastRow : OpenClaim := { program := "ytpgnfccamcefgaa", sum := "a12f055b01f06da216bc8a71c054e42e547012fd083ce6302f757f91ab37c24d", func := "rubricator/rubricatorlaw04.TrieLast", spec := "trieLast", apart := false }
def TrieLastSaid : Prop := trieLastRow.holds Try.pinned (OpenSpec.ofChange trieLastSpec)

/-- ITS FALSE NEIGHBOUR: 'it returns false'. Refute it at one input. -/
def trieLastWrong : ChangeSpec := { name := "trieLast", fn := fun _ => fun
  | [d1, d2, d3, d4] => { results := [.lit (.bool false)], args := [d1, d2, d3, d4] }
  | _ => none }
def TrieLastWrongFalsely : Prop := trieLastRow.holds Try.pinned (OpenSpec.ofChange trieLastWrong)

/-- 'rubricatorlaw04.TrieGets': WHATEVER THE INPUT: true; the input reads as it did. -/
def trieGetsSpec : ChangeSpec := { name := "trieGets", fn := fun _ => fun
  | [d1, d2, d3] => { results := [.lit (.bool true)], args := [d1, d2, d3] }
  | _ => none }
def trieGetsRow : OpenClaim := { program := "ytpgnfccamcefgaa", sum := "a12f055b01f06da216bc8a71c054e42e547012fd083ce6302f757f91ab37c24d", func := "rubricator/rubricatorlaw04.TrieGets", spec := "trieGets", apart := false }
def TrieGetsSaid : Prop := trieGetsRow.holds Try.pinned (OpenSpec.ofChange trieGetsSpec)

/-- ITS FALSE NEIGHBOUR: 'it returns false'. Refute it at one input. -/
def trieGetsWrong : ChangeSpec := { name := "trieGets", fn := fun _ => fun
  | [d1, d2, d3] => { results := [.lit (.bool false)], args := [d1, d2, d3] }
  | _ => none }
def TrieGetsWrongFalsely : Prop := trieGetsRow.holds Try.pinned (OpenSpec.ofChange trieGetsWrong)

/-- 'rubricatorlaw03.RangesMake': WHATEVER THE INPUT: true; the input reads as it did. -/
def rangesMakeSpec : ChangeSpec := { name := "rangesMake", fn := fun _ => fun
  | [d1, d2] => { results := [.lit (.bool true)], args := [d1, d2] }
  | _ => none }
def rangesMakeRow : OpenClaim := { program := "ytpgnfccamcefgaa", sum := "a12f055b01f06da216bc8a71c054e42e547012fd083ce6302f757f91ab37c24d", func := "rubricator/rubricatorlaw03.RangesMake", spec := "rangesMake", unfollowed := true, recurses := true, apart := false }
def RangesMakeSaid : Prop := rangesMakeRow.holds Try.pinned (OpenSpec.ofChange rangesMakeSpec)

/-- ITS FALSE NEIGHBOUR: 'it returns false'. Refute it at one input. -/
def rangesMakeWrong : ChangeSpec := { name := "rangesMake", fn := fun _ => fun
  | [d1, d2] => { results := [.lit (.bool false)], args := [d1, d2] }
  | _ => none }
def RangesMakeWrongFalsely : Prop := rangesMakeRow.holds Try.pinned (OpenSpec.ofChange rangesMakeWrong)

/-- 'rubricatorlaw03.RangesNot': WHATEVER THE INPUT: true; the input reads as it did. -/
def rangesNotSpec : ChangeSpec := { name := "rangesNot", fn := fun _ => fun
  | [d] => { results := [.lit (.bool true)], args := [d] }
  | _ => none }
def rangesNotRow : OpenClaim := { program := "ytpgnfccamcefgaa", sum := "a12f055b01f06da216bc8a71c054e42e547012fd083ce6302f757f91ab37c24d", func := "rubricator/rubricatorlaw03.RangesNot", spec := "rangesNot", unfollowed := true, recurses := true, apart := false }
def RangesNotSaid : Prop := rangesNotRow.holds Try.pinned (OpenSpec.ofChange rangesNotSpec)

/-- ITS FALSE NEIGHBOUR: 'it returns false'. Refute it at one input. -/
def rangesNotWrong : ChangeSpec := { name := "rangesNot", fn := fun _ => fun
  | [d] => { results := [.lit (.bool false)], args := [d] }
  | _ => none }
def RangesNotWrongFalsely : Prop := rangesNotRow.holds Try.pinned (OpenSpec.ofChange rangesNotWrong)

/-- 'rubricatorlaw03.RangesAlgebra': WHATEVER THE INPUT: true; the input reads as it did. -/
def rangesAlgebraSpec : ChangeSpec := { name := "rangesAlgebra", fn := fun _ => fun
  | [d1, d2, d3] => { results := [.lit (.bool true)], args := [d1, d2, d3] }
  | _ => none }
def rangesAlgebraRow : OpenClaim := { program := "ytpgnfccamcefgaa", sum := "a12f055b01f06da216bc8a71c054e42e547012fd083ce6302f757f91ab37c24d", func := "rubricator/rubricatorlaw03.RangesAlgebra", spec := "rangesAlgebra", unfollowed := true, recurses := true, apart := false }
def RangesAlgebraSaid : Prop := rangesAlgebraRow.holds Try.pinned (OpenSpec.ofChange rangesAlgebraSpec)

/-- ITS FALSE NEIGHBOUR: 'it returns false'. Refute it at one input. -/
def rangesAlgebraWrong : ChangeSpec := { name := "rangesAlgebra", fn := fun _ => fun
  | [d1, d2, d3] => { results := [.lit (.bool false)], args := [d1, d2, d3] }
  | _ => none }
def RangesAlgebraWrongFalsely : Prop := rangesAlgebraRow.holds Try.pinned (OpenSpec.ofChange rangesAlgebraWrong)

/-- 'rubricatorlaw03.RangesCount': WHATEVER THE INPUT: true; the input reads as it did. -/
def rangesCountSpec : ChangeSpec := { name := "rangesCount", fn := fun _ => fun
  | [d1, d2] => { results := [.lit (.bool true)], args := [d1, d2] }
  | _ => none }
def rangesCountRow : OpenClaim := { program := "ytpgnfccamcefgaa", sum := "a12f055b01f06da216bc8a71c054e42e547012fd083ce6302f757f91ab37c24d", func := "rubricator/rubricatorlaw03.RangesCount", spec := "rangesCount", unfollowed := true, recurses := true, apart := false }
def RangesCountSaid : Prop := rangesCountRow.holds Try.pinned (OpenSpec.ofChange rangesCountSpec)

/-- ITS FALSE NEIGHBOUR: 'it returns false'. Refute it at one input. -/
def rangesCountWrong : ChangeSpec := { name := "rangesCount", fn := fun _ => fun
  | [d1, d2] => { results := [.lit (.bool false)], args := [d1, d2] }
  | _ => none }
def RangesCountWrongFalsely : Prop := rangesCountRow.holds Try.pinned (OpenSpec.ofChange rangesCountWrong)

/-- 'rubricatorlaw03.RangesBoth': WHATEVER THE INPUT: true; the input reads as it did. -/
def rangesBothSpec : ChangeSpec := { name := "rangesBoth", fn := fun _ => fun
  | [d1, d2] => { results := [.lit (.bool true)], args := [d1, d2] }
  | _ => none }
def rangesBothRow : OpenClaim := { program := "ytpgnfccamcefgaa", sum := "a12f055b01f06da216bc8a71c054e42e547012fd083ce6302f757f91ab37c24d", func := "rubricator/rubricatorlaw03.RangesBoth", spec := "rangesBoth", unfollowed := true, recurses := true, apart := false }
def RangesBothSaid : Prop := rangesBothRow.holds Try.pinned (OpenSpec.ofChange rangesBothSpec)

/-- ITS FALSE NEIGHBOUR: 'it returns false'. Refute it at one input. -/
def rangesBothWrong : ChangeSpec := { name := "rangesBoth", fn := fun _ => fun
  | [d1, d2] => { results := [.lit (.bool false)], args := [d1, d2] }
  | _ => none }
def RangesBothWrongFalsely : Prop := rangesBothRow.holds Try.pinned (OpenSpec.ofChange rangesBothWrong)

/-- 'rubricatorlaw03.RangesSets': WHATEVER THE INPUT: true; the input reads as it did. -/
def rangesSetsSpec : ChangeSpec := { name := "rangesSets", fn := fun _ => fun
  | [d1, d2] => { results := [.lit (.bool true)], args := [d1, d2] }
  | _ => none }
def rangesSetsRow : OpenClaim := { program := "ytpgnfccamcefgaa", sum := "a12f055b01f06da216bc8a71c054e42e547012fd083ce6302f757f91ab37c24d", func := "rubricator/rubricatorlaw03.RangesSets", spec := "rangesSets", unfollowed := true, recurses := true, apart := false }
def RangesSetsSaid : Prop := rangesSetsRow.holds Try.pinned (OpenSpec.ofChange rangesSetsSpec)

/-- ITS FALSE NEIGHBOUR: 'it returns false'. Refute it at one input. -/
def rangesSetsWrong : ChangeSpec := { name := "rangesSets", fn := fun _ => fun
  | [d1, d2] => { results := [.lit (.bool false)], args := [d1, d2] }
  | _ => none }
def RangesSetsWrongFalsely : Prop := rangesSetsRow.holds Try.pinned (OpenSpec.ofChange rangesSetsWrong)

/-- 'rubricatorlaw04.TrieNobody': WHATEVER THE INPUT: true; the input reads as it did. -/
def trieNobodySpec : ChangeSpec := { name := "trieNobody", fn := fun _ => fun
  | [d] => { results := [.lit (.bool true)], args := [d] }
  | _ => none }
def trieNobodyRow : OpenClaim := { program := "ytpgnfccamcefgaa", sum := "a12f055b01f06da216bc8a71c054e42e547012fd083ce6302f757f91ab37c24d", func := "rubricator/rubricatorlaw04.TrieNobody", spec := "trieNobody", unfollowed := true, recurses := true, apart := false }
def TrieNobodySaid : Prop := trieNobodyRow.holds Try.pinned (OpenSpec.ofChange trieNobodySpec)

/-- ITS FALSE NEIGHBOUR: 'it returns false'. Refute it at one input. -/
def trieNobodyWrong : ChangeSpec := { name := "trieNobody", fn := fun _ => fun
  | [d] => { results := [.lit (.bool false)], args := [d] }
  | _ => none }
def TrieNobodyWrongFalsely : Prop := trieNobodyRow.holds Try.pinned (OpenSpec.ofChange trieNobodyWrong)

/-- 'rubricatorlaw03.RangesHold': WHATEVER THE INPUT: true; the input reads as it did. -/
def rangesHoldSpec : ChangeSpec := { name := "rangesHold", fn := fun _ => fun
  | [d1, d2, d3] => { results := [.lit (.bool true)], args := [d1, d2, d3] }
  | _ => none }
def rangesHoldRow : OpenClaim := { program := "ytpgnfccamcefgaa", sum := "a12f055b01f06da216bc8a71c054e42e547012fd083ce6302f757f91ab37c24d", func := "rubricator/rubricatorlaw03.RangesHold", spec := "rangesHold", unfollowed := true, recurses := true, apart := false }
def RangesHoldSaid : Prop := rangesHoldRow.holds Try.pinned (OpenSpec.ofChange rangesHoldSpec)

/-- ITS FALSE NEIGHBOUR: 'it returns false'. Refute it at one input. -/
def rangesHoldWrong : ChangeSpec := { name := "rangesHold", fn := fun _ => fun
  | [d1, d2, d3] => { results := [.lit (.bool false)], args := [d1, d2, d3] }
  | _ => none }
def RangesHoldWrongFalsely : Prop := rangesHoldRow.holds Try.pinned (OpenSpec.ofChange rangesHoldWrong)

/-- 'rubricatorlaw04.TrieRanges': WHATEVER THE INPUT: true; the input reads as it did. -/
def trieRangesSpec : ChangeSpec := { name := "trieRanges", fn := fun _ => fun
  | [d1, d2, d3] => { results := [.lit (.bool true)], args := [d1, d2, d3] }
  | _ => none }
def trieRangesRow : OpenClaim := { program := "ytpgnfccamcefgaa", sum := "a12f055b01f06da216bc8a71c054e42e547012fd083ce6302f757f91ab37c24d", func := "rubricator/rubricatorlaw04.TrieRanges", spec := "trieRanges", unfollowed := true, recurses := true, apart := false }
def TrieRangesSaid : Prop := trieRangesRow.holds Try.pinned (OpenSpec.ofChange trieRangesSpec)

/-- ITS FALSE NEIGHBOUR: 'it returns false'. Refute it at one input. -/
def trieRangesWrong : ChangeSpec := { name := "trieRanges", fn := fun _ => fun
  | [d1, d2, d3] => { results := [.lit (.bool false)], args := [d1, d2, d3] }
  | _ => none }
def TrieRangesWrongFalsely : Prop := trieRangesRow.holds Try.pinned (OpenSpec.ofChange trieRangesWrong)

/- THE SECOND FORM. 'bulk': how many values and letters a reading holds, each counted each time it is reached (what is shared counts as often as it is met; a slice's spare places count too). A statement '..UptoSaid' is the law's where the arguments, and the package variables that the reading takes, are together of bulk at most 1048576: NARROWER than '..Said'. Prove '..Said' where nothing that the law and all that it calls make is longer than what came in: it says more and counts as full. Else prove '..UptoSaid'. A law counts once. -/
mutual
def uptoBulk {H : Type} : DataW H → Nat
  | .lit (.string bytes) => bytes.length + 1
  | .lit _ => 1
  | .nil => 1
  | .ptr d => uptoBulk d + 1
  | .slice elems spare => uptoBulkAll elems + uptoBulkAll spare + 1
  | .agg parts => uptoBulkAll parts + 1
  | .iface _ d => uptoBulk d + 1
  | .map entries => uptoBulkEntries entries + 1
  | .held _ => 1
def uptoBulkAll {H : Type} : List (DataW H) → Nat
  | [] => 0
  | d :: r => uptoBulk d + uptoBulkAll r
def uptoBulkEntries {H : Type} : List (Lit × DataW H) → Nat
  | [] => 0
  | x :: r => uptoBulkEntry x + uptoBulkEntries r
def uptoBulkEntry {H : Type} : Lit × DataW H → Nat
  | (.string bytes, d) => bytes.length + uptoBulk d + 1
  | (_, d) => uptoBulk d + 1
 end
def uptoSmall : (H : Type) → List (DataW H) → Bool := fun _ ds => decide (uptoBulkAll ds ≤ 1048576)
def OpenSpec.upto (s : _root_.Go.ChangeSpec) : _root_.Go.OpenSpec := { _root_.Go.OpenSpec.ofChange s with cond := some uptoSmall }

/-- 'rubricatorlaw22.EditExpand', WHERE WHAT IT READS IS OF BULK AT MOST 1048576: true; the input reads as it did. -/
def editExpandUptoRow : OpenClaim := { program := "ytpgnfccamcefgaa", sum := "a12f055b01f06da216bc8a71c054e42e547012fd083ce6302f757f91ab37c24d", func := "rubricator/rubricatorlaw22.EditExpand", spec := "editExpand", apart := false, narrowed := true }
def EditExpandUptoSaid : Prop := editExpandUptoRow.holds Try.pinned (OpenSpec.upto editExpandSpec)

/-- 'rubricatorlaw04.TrieLast', WHERE WHAT IT READS IS OF BULK AT MOST 1048576: true; the input reads as it did. -/
def trieLastUptoRow : OpenClaim := { program := "ytpgnfccamcefgaa", sum := "a12f055b01f06da216bc8a71c054e42e547012fd083ce6302f757f91ab37c24d", func := "rubricator/rubricatorlaw04.TrieLast", spec := "trieLast", apart := false, narrowed := true }
def TrieLastUptoSaid : Prop := trieLastUptoRow.holds Try.pinned (OpenSpec.upto trieLastSpec)

/-- 'rubricatorlaw04.TrieGets', WHERE WHAT IT READS IS OF BULK AT MOST 1048576: true; the input reads as it did. -/
def trieGetsUptoRow : OpenClaim := { program := "ytpgnfccamcefgaa", sum := "a12f055b01f06da216bc8a71c054e42e547012fd083ce6302f757f91ab37c24d", func := "rubricator/rubricatorlaw04.TrieGets", spec := "trieGets", apart := false, narrowed := true }
def TrieGetsUptoSaid : Prop := trieGetsUptoRow.holds Try.pinned (OpenSpec.upto trieGetsSpec)

/-- 'rubricatorlaw03.RangesMake', WHERE WHAT IT READS IS OF BULK AT MOST 1048576: true; the input reads as it did. -/
def rangesMakeUptoRow : OpenClaim := { program := "ytpgnfccamcefgaa", sum := "a12f055b01f06da216bc8a71c054e42e547012fd083ce6302f757f91ab37c24d", func := "rubricator/rubricatorlaw03.RangesMake", spec := "rangesMake", unfollowed := true, recurses := true, apart := false, narrowed := true }
def RangesMakeUptoSaid : Prop := rangesMakeUptoRow.holds Try.pinned (OpenSpec.upto rangesMakeSpec)

/-- 'rubricatorlaw03.RangesNot', WHERE WHAT IT READS IS OF BULK AT MOST 1048576: true; the input reads as it did. -/
def rangesNotUptoRow : OpenClaim := { program := "ytpgnfccamcefgaa", sum := "a12f055b01f06da216bc8a71c054e42e547012fd083ce6302f757f91ab37c24d", func := "rubricator/rubricatorlaw03.RangesNot", spec := "rangesNot", unfollowed := true, recurses := true, apart := false, narrowed := true }
def RangesNotUptoSaid : Prop := rangesNotUptoRow.holds Try.pinned (OpenSpec.upto rangesNotSpec)

/-- 'rubricatorlaw03.RangesAlgebra', WHERE WHAT IT READS IS OF BULK AT MOST 1048576: true; the input reads as it did. -/
def rangesAlgebraUptoRow : OpenClaim := { program := "ytpgnfccamcefgaa", sum := "a12f055b01f06da216bc8a71c054e42e547012fd083ce6302f757f91ab37c24d", func := "rubricator/rubricatorlaw03.RangesAlgebra", spec := "rangesAlgebra", unfollowed := true, recurses := true, apart := false, narrowed := true }
def RangesAlgebraUptoSaid : Prop := rangesAlgebraUptoRow.holds Try.pinned (OpenSpec.upto rangesAlgebraSpec)

/-- 'rubricatorlaw03.RangesCount', WHERE WHAT IT READS IS OF BULK AT MOST 1048576: true; the input reads as it did. -/
def rangesCountUptoRow : OpenClaim := { program := "ytpgnfccamcefgaa", sum := "a12f055b01f06da216bc8a71c054e42e547012fd083ce6302f757f91ab37c24d", func := "rubricator/rubricatorlaw03.RangesCount", spec := "rangesCount", unfollowed := true, recurses := true, apart := false, narrowed := true }
def RangesCountUptoSaid : Prop := rangesCountUptoRow.holds Try.pinned (OpenSpec.upto rangesCountSpec)

/-- 'rubricatorlaw03.RangesBoth', WHERE WHAT IT READS IS OF BULK AT MOST 1048576: true; the input reads as it did. -/
def rangesBothUptoRow : OpenClaim := { program := "ytpgnfccamcefgaa", sum := "a12f055b01f06da216bc8a71c054e42e547012fd083ce6302f757f91ab37c24d", func := "rubricator/rubricatorlaw03.RangesBoth", spec := "rangesBoth", unfollowed := true, recurses := true, apart := false, narrowed := true }
def RangesBothUptoSaid : Prop := rangesBothUptoRow.holds Try.pinned (OpenSpec.upto rangesBothSpec)

/-- 'rubricatorlaw03.RangesSets', WHERE WHAT IT READS IS OF BULK AT MOST 1048576: true; the input reads as it did. -/
def rangesSetsUptoRow : OpenClaim := { program := "ytpgnfccamcefgaa", sum := "a12f055b01f06da216bc8a71c054e42e547012fd083ce6302f757f91ab37c24d", func := "rubricator/rubricatorlaw03.RangesSets", spec := "rangesSets", unfollowed := true, recurses := true, apart := false, narrowed := true }
def RangesSetsUptoSaid : Prop := rangesSetsUptoRow.holds Try.pinned (OpenSpec.upto rangesSetsSpec)

/-- 'rubricatorlaw04.TrieNobody', WHERE WHAT IT READS IS OF BULK AT MOST 1048576: true; the input reads as it did. -/
def trieNobodyUptoRow : OpenClaim := { program := "ytpgnfccamcefgaa", sum := "a12f055b01f06da216bc8a71c054e42e547012fd083ce6302f757f91ab37c24d", func := "rubricator/rubricatorlaw04.TrieNobody", spec := "trieNobody", unfollowed := true, recurses := true, apart := false, narrowed := true }
def TrieNobodyUptoSaid : Prop := trieNobodyUptoRow.holds Try.pinned (OpenSpec.upto trieNobodySpec)

/-- 'rubricatorlaw03.RangesHold', WHERE WHAT IT READS IS OF BULK AT MOST 1048576: true; the input reads as it did. -/
def rangesHoldUptoRow : OpenClaim := { program := "ytpgnfccamcefgaa", sum := "a12f055b01f06da216bc8a71c054e42e547012fd083ce6302f757f91ab37c24d", func := "rubricator/rubricatorlaw03.RangesHold", spec := "rangesHold", unfollowed := true, recurses := true, apart := false, narrowed := true }
def RangesHoldUptoSaid : Prop := rangesHoldUptoRow.holds Try.pinned (OpenSpec.upto rangesHoldSpec)

/-- 'rubricatorlaw04.TrieRanges', WHERE WHAT IT READS IS OF BULK AT MOST 1048576: true; the input reads as it did. -/
def trieRangesUptoRow : OpenClaim := { program := "ytpgnfccamcefgaa", sum := "a12f055b01f06da216bc8a71c054e42e547012fd083ce6302f757f91ab37c24d", func := "rubricator/rubricatorlaw04.TrieRanges", spec := "trieRanges", unfollowed := true, recurses := true, apart := false, narrowed := true }
def TrieRangesUptoSaid : Prop := trieRangesUptoRow.holds Try.pinned (OpenSpec.upto trieRangesSpec)

end Rows
end Go.Proofs.Ytpgnfccamcefgaa
