/-
  NARROWER THAN 'FOR EVERY INPUT', by the rows' own cells (each row's printed sentence says how): LinesHex: laid · LinesApart: laid · LinesRead: laid · NamesLoose: laid · NamesResolve: laid · NamesLong: laid · NamesBack: laid · LinesPrint: laid · LinesBack: laid · LinesIdle: laid · NamesSame: laid.
  DERIVED. THE GIVEN ROWS OF THIS SEAT. 11 by the template 'for every input the law returns true; each argument reads behind the call as it read before'; 0 by the template 'total and deterministic' (their statements: YtooehjbbphokbaaDoorTotals.lean).
  GIVEN WITH THE SEED: the statements are not yours to turn. If you find one false, say at which input.
  Laid BY PROGRAM, IN A SANDBOX (cutbox-rows.mjs): the forced cells as the released guide's own fill.sh prints them over the translation dfd9a0b61b2cdc09… (all of the seat's roots in one cut). By AI agents, Wed Nov 11 2026. No macro, syntax, notation, axiom, sorry.
-/
import Derived.Test.YtooehjbbphokbaaDoorChecked
import GoSem.PinnedTables
import GoSem.Claim
import GoSem.ClaimJoined
import GoSem.ClaimMapViews
import Derived.JoinedTies
import Derived.KernelRfl
namespace Go.Proofs.YtooehjbbphokbaaDoor
/- THE CELL 'sum', in the pinned program and in every row, IS THE sha256 OF THE DUMP (.gsa) THAT YtooehjbbphokbaaDoorProg.lean LOADS. Nothing in Lean hashes anything: it is a label: what it is worth is what the hold of that sum in a sandbox is worth. -/
noncomputable def Tryd.pinned : Pinned := { name := "ytooehjbbphokbaadoor", sum := "dfd9a0b61b2cdc099b29941fbf9ee1bdac7d96f1fb08744d847b8c0d50f4767d", checked := Tryd.checked }
namespace Rows
def none {H : Type} : Left H := { results := [], args := [] }

/- WHAT THE LISTED PACKAGE-LEVEL VARIABLES READ AS WHEN THE CALL BEGINS. Each datum BY PROGRAM (the guide's laid-datum.mjs) off the statement by which the dump's own 'gosem.cut.vars' lays the variable. In a bare row this is a premise. The card (YtooehjbbphokbaaDoorCards.lean) ties it to the program's text. -/
def laid_unicode_utf8_acceptRanges {H : Type} : DataW H := .agg [.agg [.lit (.int .u8 128), .lit (.int .u8 191)], .agg [.lit (.int .u8 160), .lit (.int .u8 191)], .agg [.lit (.int .u8 128), .lit (.int .u8 159)], .agg [.lit (.int .u8 144), .lit (.int .u8 191)], .agg [.lit (.int .u8 128), .lit (.int .u8 143)], .agg [.lit (.int .u8 0), .lit (.int .u8 0)], .agg [.lit (.int .u8 0), .lit (.int .u8 0)], .agg [.lit (.int .u8 0), .lit (.int .u8 0)], .agg [.lit (.int .u8 0), .lit (.int .u8 0)], .agg [.lit (.int .u8 0), .lit (.int .u8 0)], .agg [.lit (.int .u8 0), .lit (.int .u8 0)], .agg [.lit (.int .u8 0), .lit (.int .u8 0)], .agg [.lit (.int .u8 0), .lit (.int .u8 0)], .agg [.lit (.int .u8 0), .lit (.int .u8 0)], .agg [.lit (.int .u8 0), .lit (.int .u8 0)], .agg [.lit (.int .u8 0), .lit (.int .u8 0)]]
/-- One of Go's own tables, pinned by name: the form's constant. -/
def laid_unicode_utf8_first : DataW Unit := Go.Pinned.utf8First
/-- One of Go's own tables, pinned by name: the form's constant. -/
def laid_unicode_CaseRanges : DataW Unit := Go.Pinned.caseRanges

/-- 'rubricatorlaw02.LinesHex': WHATEVER THE INPUT: true; the input reads as it did. -/
def linesHexSpec : ChangeSpec := { name := "linesHex", fn := fun _ => fun
  | [d] => { results := [.lit (.bool true)], args := [d] }
  | _ => none }
def linesHexRow : OpenClaim := { program := "ytooehjbbphokbaadoor", sum := "dfd9a0b61b2cdc099b29941fbf9ee1bdac7d96f1fb08744d847b8c0d50f4767d", func := "rubricator/rubricatorlaw02.LinesHex", spec := "linesHex", inPlace := ["internal/bytealg.CountString", "internal/bytealg.IndexByteString", "internal/bytealg.IndexString"], named := ["unicode/utf8.first", "unicode/utf8.acceptRanges", "internal/bytealg.MaxLen"], apart := false, laid := [("unicode/utf8.acceptRanges", laid_unicode_utf8_acceptRanges), ("unicode/utf8.first", laid_unicode_utf8_first)] }
def LinesHexSaid : Prop := linesHexRow.holds Tryd.pinned (OpenSpec.ofChange linesHexSpec)

/-- ITS FALSE NEIGHBOUR: 'it returns false'. Refute it at one input. -/
def linesHexWrong : ChangeSpec := { name := "linesHex", fn := fun _ => fun
  | [d] => { results := [.lit (.bool false)], args := [d] }
  | _ => none }
def LinesHexWrongFalsely : Prop := linesHexRow.holds Tryd.pinned (OpenSpec.ofChange linesHexWrong)

/-- 'rubricatorlaw02.LinesApart': WHATEVER THE INPUT: true; the input reads as it did. -/
def linesApartSpec : ChangeSpec := { name := "linesApart", fn := fun _ => fun
  | [d1, d2] => { results := [.lit (.bool true)], args := [d1, d2] }
  | _ => none }
def linesApartRow : OpenClaim := { program := "ytooehjbbphokbaadoor", sum := "dfd9a0b61b2cdc099b29941fbf9ee1bdac7d96f1fb08744d847b8c0d50f4767d", func := "rubricator/rubricatorlaw02.LinesApart", spec := "linesApart", inPlace := ["internal/bytealg.CountString", "internal/bytealg.IndexByteString", "internal/bytealg.IndexString"], unfollowed := true, recurses := true, named := ["unicode/utf8.first", "unicode/utf8.acceptRanges", "internal/bytealg.MaxLen"], apart := false, laid := [("unicode/utf8.acceptRanges", laid_unicode_utf8_acceptRanges), ("unicode/utf8.first", laid_unicode_utf8_first)] }
def LinesApartSaid : Prop := linesApartRow.holds Tryd.pinned (OpenSpec.ofChange linesApartSpec)

/-- ITS FALSE NEIGHBOUR: 'it returns false'. Refute it at one input. -/
def linesApartWrong : ChangeSpec := { name := "linesApart", fn := fun _ => fun
  | [d1, d2] => { results := [.lit (.bool false)], args := [d1, d2] }
  | _ => none }
def LinesApartWrongFalsely : Prop := linesApartRow.holds Tryd.pinned (OpenSpec.ofChange linesApartWrong)

/-- 'rubricatorlaw02.LinesRead': WHATEVER THE INPUT: true; the input reads as it did. -/
def linesReadSpec : ChangeSpec := { name := "linesRead", fn := fun _ => fun
  | [d] => { results := [.lit (.bool true)], args := [d] }
  | _ => none }
def linesReadRow : OpenClaim := { program := "ytooehjbbphokbaadoor", sum := "dfd9a0b61b2cdc099b29941fbf9ee1bdac7d96f1fb08744d847b8c0d50f4767d", func := "rubricator/rubricatorlaw02.LinesRead", spec := "linesRead", inPlace := ["internal/bytealg.CountString", "internal/bytealg.IndexByteString", "internal/bytealg.IndexString"], unfollowed := true, recurses := true, named := ["unicode/utf8.first", "unicode/utf8.acceptRanges", "internal/bytealg.MaxLen"], apart := false, laid := [("unicode/utf8.acceptRanges", laid_unicode_utf8_acceptRanges), ("unicode/utf8.first", laid_unicode_utf8_first)] }
def LinesReadSaid : Prop := linesReadRow.holds Tryd.pinned (OpenSpec.ofChange linesReadSpec)

/-- ITS FALSE NEIGHBOUR: 'it returns false'. Refute it at one input. -/
def linesReadWrong : ChangeSpec := { name := "linesRead", fn := fun _ => fun
  | [d] => { results := [.lit (.bool false)], args := [d] }
  | _ => none }
def LinesReadWrongFalsely : Prop := linesReadRow.holds Tryd.pinned (OpenSpec.ofChange linesReadWrong)

/-- 'rubricatorlaw05.NamesLoose': WHATEVER THE INPUT: true; the input reads as it did. -/
def namesLooseSpec : ChangeSpec := { name := "namesLoose", fn := fun _ => fun
  | [d] => { results := [.lit (.bool true)], args := [d] }
  | _ => none }
def namesLooseRow : OpenClaim := { program := "ytooehjbbphokbaadoor", sum := "dfd9a0b61b2cdc099b29941fbf9ee1bdac7d96f1fb08744d847b8c0d50f4767d", func := "rubricator/rubricatorlaw05.NamesLoose", spec := "namesLoose", inPlace := ["internal/bytealg.IndexByteString", "internal/bytealg.IndexString", "internal/bytealg.CountString"], named := ["unicode/utf8.first", "unicode/utf8.acceptRanges", "internal/bytealg.MaxLen"], apart := false, laid := [("unicode/utf8.acceptRanges", laid_unicode_utf8_acceptRanges), ("unicode/utf8.first", laid_unicode_utf8_first)] }
def NamesLooseSaid : Prop := namesLooseRow.holds Tryd.pinned (OpenSpec.ofChange namesLooseSpec)

/-- ITS FALSE NEIGHBOUR: 'it returns false'. Refute it at one input. -/
def namesLooseWrong : ChangeSpec := { name := "namesLoose", fn := fun _ => fun
  | [d] => { results := [.lit (.bool false)], args := [d] }
  | _ => none }
def NamesLooseWrongFalsely : Prop := namesLooseRow.holds Tryd.pinned (OpenSpec.ofChange namesLooseWrong)

/-- 'rubricatorlaw05.NamesResolve': WHATEVER THE INPUT: true; the input reads as it did. -/
def namesResolveSpec : ChangeSpec := { name := "namesResolve", fn := fun _ => fun
  | [d] => { results := [.lit (.bool true)], args := [d] }
  | _ => none }
def namesResolveRow : OpenClaim := { program := "ytooehjbbphokbaadoor", sum := "dfd9a0b61b2cdc099b29941fbf9ee1bdac7d96f1fb08744d847b8c0d50f4767d", func := "rubricator/rubricatorlaw05.NamesResolve", spec := "namesResolve", inPlace := ["internal/bytealg.IndexByteString", "internal/bytealg.IndexString", "internal/bytealg.CountString"], named := ["unicode/utf8.first", "unicode/utf8.acceptRanges", "internal/bytealg.MaxLen"], apart := false, laid := [("unicode/utf8.acceptRanges", laid_unicode_utf8_acceptRanges), ("unicode/utf8.first", laid_unicode_utf8_first)] }
def NamesResolveSaid : Prop := namesResolveRow.holds Tryd.pinned (OpenSpec.ofChange namesResolveSpec)

/-- ITS FALSE NEIGHBOUR: 'it returns false'. Refute it at one input. -/
def namesResolveWrong : ChangeSpec := { name := "namesResolve", fn := fun _ => fun
  | [d] => { results := [.lit (.bool false)], args := [d] }
  | _ => none }
def NamesResolveWrongFalsely : Prop := namesResolveRow.holds Tryd.pinned (OpenSpec.ofChange namesResolveWrong)

/-- 'rubricatorlaw05.NamesLong': WHATEVER THE INPUT: true; the input reads as it did. -/
def namesLongSpec : ChangeSpec := { name := "namesLong", fn := fun _ => fun
  | [d1, d2] => { results := [.lit (.bool true)], args := [d1, d2] }
  | _ => none }
def namesLongRow : OpenClaim := { program := "ytooehjbbphokbaadoor", sum := "dfd9a0b61b2cdc099b29941fbf9ee1bdac7d96f1fb08744d847b8c0d50f4767d", func := "rubricator/rubricatorlaw05.NamesLong", spec := "namesLong", inPlace := ["internal/bytealg.CountString", "internal/bytealg.IndexByteString", "internal/bytealg.IndexString"], named := ["unicode/utf8.first", "unicode/utf8.acceptRanges", "internal/bytealg.MaxLen"], apart := false, laid := [("unicode/utf8.acceptRanges", laid_unicode_utf8_acceptRanges), ("unicode/utf8.first", laid_unicode_utf8_first)] }
def NamesLongSaid : Prop := namesLongRow.holds Tryd.pinned (OpenSpec.ofChange namesLongSpec)

/-- ITS FALSE NEIGHBOUR: 'it returns false'. Refute it at one input. -/
def namesLongWrong : ChangeSpec := { name := "namesLong", fn := fun _ => fun
  | [d1, d2] => { results := [.lit (.bool false)], args := [d1, d2] }
  | _ => none }
def NamesLongWrongFalsely : Prop := namesLongRow.holds Tryd.pinned (OpenSpec.ofChange namesLongWrong)

/-- 'rubricatorlaw05.NamesBack': WHATEVER THE INPUT: true; the input reads as it did. -/
def namesBackSpec : ChangeSpec := { name := "namesBack", fn := fun _ => fun
  | [d] => { results := [.lit (.bool true)], args := [d] }
  | _ => none }
def namesBackRow : OpenClaim := { program := "ytooehjbbphokbaadoor", sum := "dfd9a0b61b2cdc099b29941fbf9ee1bdac7d96f1fb08744d847b8c0d50f4767d", func := "rubricator/rubricatorlaw05.NamesBack", spec := "namesBack", inPlace := ["internal/bytealg.IndexByteString", "internal/bytealg.IndexString", "internal/bytealg.CountString"], named := ["unicode/utf8.first", "unicode/utf8.acceptRanges", "internal/bytealg.MaxLen"], apart := false, laid := [("unicode/utf8.acceptRanges", laid_unicode_utf8_acceptRanges), ("unicode/utf8.first", laid_unicode_utf8_first)] }
def NamesBackSaid : Prop := namesBackRow.holds Tryd.pinned (OpenSpec.ofChange namesBackSpec)

/-- ITS FALSE NEIGHBOUR: 'it returns false'. Refute it at one input. -/
def namesBackWrong : ChangeSpec := { name := "namesBack", fn := fun _ => fun
  | [d] => { results := [.lit (.bool false)], args := [d] }
  | _ => none }
def NamesBackWrongFalsely : Prop := namesBackRow.holds Tryd.pinned (OpenSpec.ofChange namesBackWrong)

/-- 'rubricatorlaw02.LinesPrint': WHATEVER THE INPUT: true; the input reads as it did. -/
def linesPrintSpec : ChangeSpec := { name := "linesPrint", fn := fun _ => fun
  | [d] => { results := [.lit (.bool true)], args := [d] }
  | _ => none }
def linesPrintRow : OpenClaim := { program := "ytooehjbbphokbaadoor", sum := "dfd9a0b61b2cdc099b29941fbf9ee1bdac7d96f1fb08744d847b8c0d50f4767d", func := "rubricator/rubricatorlaw02.LinesPrint", spec := "linesPrint", inPlace := ["internal/abi.NoEscape", "internal/bytealg.IndexByteString", "internal/bytealg.IndexString", "internal/bytealg.CountString"], named := ["unicode/utf8.first", "unicode/utf8.acceptRanges", "internal/bytealg.MaxLen"], apart := false, laid := [("unicode/utf8.acceptRanges", laid_unicode_utf8_acceptRanges), ("unicode/utf8.first", laid_unicode_utf8_first)] }
def LinesPrintSaid : Prop := linesPrintRow.holds Tryd.pinned (OpenSpec.ofChange linesPrintSpec)

/-- ITS FALSE NEIGHBOUR: 'it returns false'. Refute it at one input. -/
def linesPrintWrong : ChangeSpec := { name := "linesPrint", fn := fun _ => fun
  | [d] => { results := [.lit (.bool false)], args := [d] }
  | _ => none }
def LinesPrintWrongFalsely : Prop := linesPrintRow.holds Tryd.pinned (OpenSpec.ofChange linesPrintWrong)

/-- 'rubricatorlaw02.LinesBack': WHATEVER THE INPUT: true; the input reads as it did. -/
def linesBackSpec : ChangeSpec := { name := "linesBack", fn := fun _ => fun
  | [d] => { results := [.lit (.bool true)], args := [d] }
  | _ => none }
def linesBackRow : OpenClaim := { program := "ytooehjbbphokbaadoor", sum := "dfd9a0b61b2cdc099b29941fbf9ee1bdac7d96f1fb08744d847b8c0d50f4767d", func := "rubricator/rubricatorlaw02.LinesBack", spec := "linesBack", inPlace := ["internal/abi.NoEscape", "internal/bytealg.IndexByteString", "internal/bytealg.IndexString", "internal/bytealg.CountString"], unfollowed := true, recurses := true, named := ["unicode/utf8.first", "unicode/utf8.acceptRanges", "internal/bytealg.MaxLen"], apart := false, laid := [("unicode/utf8.acceptRanges", laid_unicode_utf8_acceptRanges), ("unicode/utf8.first", laid_unicode_utf8_first)] }
def LinesBackSaid : Prop := linesBackRow.holds Tryd.pinned (OpenSpec.ofChange linesBackSpec)

/-- ITS FALSE NEIGHBOUR: 'it returns false'. Refute it at one input. -/
def linesBackWrong : ChangeSpec := { name := "linesBack", fn := fun _ => fun
  | [d] => { results := [.lit (.bool false)], args := [d] }
  | _ => none }
def LinesBackWrongFalsely : Prop := linesBackRow.holds Tryd.pinned (OpenSpec.ofChange linesBackWrong)

/-- 'rubricatorlaw02.LinesIdle': WHATEVER THE INPUT: true; the input reads as it did. -/
def linesIdleSpec : ChangeSpec := { name := "linesIdle", fn := fun _ => fun
  | [d1, d2] => { results := [.lit (.bool true)], args := [d1, d2] }
  | _ => none }
def linesIdleRow : OpenClaim := { program := "ytooehjbbphokbaadoor", sum := "dfd9a0b61b2cdc099b29941fbf9ee1bdac7d96f1fb08744d847b8c0d50f4767d", func := "rubricator/rubricatorlaw02.LinesIdle", spec := "linesIdle", inPlace := ["internal/bytealg.CountString", "internal/bytealg.IndexByteString", "internal/bytealg.IndexString", "internal/abi.NoEscape"], unfollowed := true, recurses := true, named := ["unicode/utf8.first", "unicode/utf8.acceptRanges", "internal/bytealg.MaxLen"], apart := false, laid := [("unicode/utf8.acceptRanges", laid_unicode_utf8_acceptRanges), ("unicode/utf8.first", laid_unicode_utf8_first)] }
def LinesIdleSaid : Prop := linesIdleRow.holds Tryd.pinned (OpenSpec.ofChange linesIdleSpec)

/-- ITS FALSE NEIGHBOUR: 'it returns false'. Refute it at one input. -/
def linesIdleWrong : ChangeSpec := { name := "linesIdle", fn := fun _ => fun
  | [d1, d2] => { results := [.lit (.bool false)], args := [d1, d2] }
  | _ => none }
def LinesIdleWrongFalsely : Prop := linesIdleRow.holds Tryd.pinned (OpenSpec.ofChange linesIdleWrong)

/-- 'rubricatorlaw05.NamesSame': WHATEVER THE INPUT: true; the input reads as it did. -/
def namesSameSpec : ChangeSpec := { name := "namesSame", fn := fun _ => fun
  | [d] => { results := [.lit (.bool true)], args := [d] }
  | _ => none }
def namesSameRow : OpenClaim := { program := "ytooehjbbphokbaadoor", sum := "dfd9a0b61b2cdc099b29941fbf9ee1bdac7d96f1fb08744d847b8c0d50f4767d", func := "rubricator/rubricatorlaw05.NamesSame", spec := "namesSame", inPlace := ["internal/bytealg.IndexByteString", "internal/bytealg.IndexString", "internal/bytealg.CountString", "internal/abi.NoEscape", "internal/bytealg.MakeNoZero"], unfollowed := true, recurses := true, named := ["unicode/utf8.first", "unicode/utf8.acceptRanges", "internal/bytealg.MaxLen", "unicode.CaseRanges"], apart := false, laid := [("unicode/utf8.acceptRanges", laid_unicode_utf8_acceptRanges), ("unicode.CaseRanges", laid_unicode_CaseRanges), ("unicode/utf8.first", laid_unicode_utf8_first)] }
def NamesSameSaid : Prop := namesSameRow.holds Tryd.pinned (OpenSpec.ofChange namesSameSpec)

/-- ITS FALSE NEIGHBOUR: 'it returns false'. Refute it at one input. -/
def namesSameWrong : ChangeSpec := { name := "namesSame", fn := fun _ => fun
  | [d] => { results := [.lit (.bool false)], args := [d] }
  | _ => none }
def NamesSameWrongFalsely : Prop := namesSameRow.holds Tryd.pinned (OpenSpec.ofChange namesSameWrong)

/- THE SECOND FORM. 'bulk': how many values and letters a reading holds, each counted each time it is reached (what is shared counts as often as it is met; a slice's spare places count too). A statement '..UptoSaid' is the law's where the arguments, and the package variables that the reading takes, are together of bulk at most 1048576: NARROWER than '..Said'. Prove '..Said' where nothing that the law and all that it calls make is longer than what came in: it says more and counts as full. Else prove '..UptoSaid'. A law counts once. -/
mutual
def uptoBulk {H : Type} : DataW H → Nat
  | .lit (.string bytes) => bytes.length + 1
  | .lit _ => 1
  | .nil => 1
  | .ptr d => uptoBulk d + 1
  | .slice elems spare => uptoBulkAll elems + uptoBulkAll spare + 1
  | .agg parts => uptoBulkAll parts + 1
  | .iface _ d => uptoBulk d + 1
  | .map entries => uptoBulkEntries entries + 1
  | .held _ => 1
def uptoBulkAll {H : Type} : List (DataW H) → Nat
  | [] => 0
  | d :: r => uptoBulk d + uptoBulkAll r
def uptoBulkEntries {H : Type} : List (Lit × DataW H) → Nat
  | [] => 0
  | x :: r => uptoBulkEntry x + uptoBulkEntries r
def uptoBulkEntry {H : Type} : Lit × DataW H → Nat
  | (.string bytes, d) => bytes.length + uptoBulk d + 1
  | (_, d) => uptoBulk d + 1
 end
def uptoSmall : (H : Type) → List (DataW H) → Bool := fun _ ds => decide (uptoBulkAll ds ≤ 1048576)
def OpenSpec.upto (s : _root_.Go.ChangeSpec) : _root_.Go.OpenSpec := { _root_.Go.OpenSpec.ofChange s with cond := some uptoSmall }

/-- 'rubricatorlaw02.LinesHex', WHERE WHAT IT READS IS OF BULK AT MOST 1048576: true; the input reads as it did. -/
def linesHexUptoRow : OpenClaim := { program := "ytooehjbbphokbaadoor", sum := "dfd9a0b61b2cdc099b29941fbf9ee1bdac7d96f1fb08744d847b8c0d50f4767d", func := "rubricator/rubricatorlaw02.LinesHex", spec := "linesHex", inPlace := ["internal/bytealg.CountString", "internal/bytealg.IndexByteString", "internal/bytealg.IndexString"], named := ["unicode/utf8.first", "unicode/utf8.acceptRanges", "internal/bytealg.MaxLen"], apart := false, laid := [("unicode/utf8.acceptRanges", laid_unicode_utf8_acceptRanges), ("unicode/utf8.first", laid_unicode_utf8_first)], narrowed := true }
def LinesHexUptoSaid : Prop := linesHexUptoRow.holds Tryd.pinned (OpenSpec.upto linesHexSpec)

/-- 'rubricatorlaw02.LinesApart', WHERE WHAT IT READS IS OF BULK AT MOST 1048576: true; the input reads as it did. -/
def linesApartUptoRow : OpenClaim := { program := "ytooehjbbphokbaadoor", sum := "dfd9a0b61b2cdc099b29941fbf9ee1bdac7d96f1fb08744d847b8c0d50f4767d", func := "rubricator/rubricatorlaw02.LinesApart", spec := "linesApart", inPlace := ["internal/bytealg.CountString", "internal/bytealg.IndexByteString", "internal/bytealg.IndexString"], unfollowed := true, recurses := true, named := ["unicode/utf8.first", "unicode/utf8.acceptRanges", "internal/bytealg.MaxLen"], apart := false, laid := [("unicode/utf8.acceptRanges", laid_unicode_utf8_acceptRanges), ("unicode/utf8.first", laid_unicode_utf8_first)], narrowed := true }
def LinesApartUptoSaid : Prop := linesApartUptoRow.holds Tryd.pinned (OpenSpec.upto linesApartSpec)

/-- 'rubricatorlaw02.LinesRead', WHERE WHAT IT READS IS OF BULK AT MOST 1048576: true; the input reads as it did. -/
def linesReadUptoRow : OpenClaim := { program := "ytooehjbbphokbaadoor", sum := "dfd9a0b61b2cdc099b29941fbf9ee1bdac7d96f1fb08744d847b8c0d50f4767d", func := "rubricator/rubricatorlaw02.LinesRead", spec := "linesRead", inPlace := ["internal/bytealg.CountString", "internal/bytealg.IndexByteString", "internal/bytealg.IndexString"], unfollowed := true, recurses := true, named := ["unicode/utf8.first", "unicode/utf8.acceptRanges", "internal/bytealg.MaxLen"], apart := false, laid := [("unicode/utf8.acceptRanges", laid_unicode_utf8_acceptRanges), ("unicode/utf8.first", laid_unicode_utf8_first)], narrowed := true }
def LinesReadUptoSaid : Prop := linesReadUptoRow.holds Tryd.pinned (OpenSpec.upto linesReadSpec)

/-- 'rubricatorlaw05.NamesLoose', WHERE WHAT IT READS IS OF BULK AT MOST 1048576: true; the input reads as it did. -/
def namesLooseUptoRow : OpenClaim := { program := "ytooehjbbphokbaadoor", sum := "dfd9a0b61b2cdc099b29941fbf9ee1bdac7d96f1fb08744d847b8c0d50f4767d", func := "rubricator/rubricatorlaw05.NamesLoose", spec := "namesLoose", inPlace := ["internal/bytealg.IndexByteString", "internal/bytealg.IndexString", "internal/bytealg.CountString"], named := ["unicode/utf8.first", "unicode/utf8.acceptRanges", "internal/bytealg.MaxLen"], apart := false, laid := [("unicode/utf8.acceptRanges", laid_unicode_utf8_acceptRanges), ("unicode/utf8.first", laid_unicode_utf8_first)], narrowed := true }
def NamesLooseUptoSaid : Prop := namesLooseUptoRow.holds Tryd.pinned (OpenSpec.upto namesLooseSpec)

/-- 'rubricatorlaw05.NamesResolve', WHERE WHAT IT READS IS OF BULK AT MOST 1048576: true; the input reads as it did. -/
def namesResolveUptoRow : OpenClaim := { program := "ytooehjbbphokbaadoor", sum := "dfd9a0b61b2cdc099b29941fbf9ee1bdac7d96f1fb08744d847b8c0d50f4767d", func := "rubricator/rubricatorlaw05.NamesResolve", spec := "namesResolve", inPlace := ["internal/bytealg.IndexByteString", "internal/bytealg.IndexString", "internal/bytealg.CountString"], named := ["unicode/utf8.first", "unicode/utf8.acceptRanges", "internal/bytealg.MaxLen"], apart := false, laid := [("unicode/utf8.acceptRanges", laid_unicode_utf8_acceptRanges), ("unicode/utf8.first", laid_unicode_utf8_first)], narrowed := true }
def NamesResolveUptoSaid : Prop := namesResolveUptoRow.holds Tryd.pinned (OpenSpec.upto namesResolveSpec)

/-- 'rubricatorlaw05.NamesLong', WHERE WHAT IT READS IS OF BULK AT MOST 1048576: true; the input reads as it did. -/
def namesLongUptoRow : OpenClaim := { program := "ytooehjbbphokbaadoor", sum := "dfd9a0b61b2cdc099b29941fbf9ee1bdac7d96f1fb08744d847b8c0d50f4767d", func := "rubricator/rubricatorlaw05.NamesLong", spec := "namesLong", inPlace := ["internal/bytealg.CountString", "internal/bytealg.IndexByteString", "internal/bytealg.IndexString"], named := ["unicode/utf8.first", "unicode/utf8.acceptRanges", "internal/bytealg.MaxLen"], apart := false, laid := [("unicode/utf8.acceptRanges", laid_unicode_utf8_acceptRanges), ("unicode/utf8.first", laid_unicode_utf8_first)], narrowed := true }
def NamesLongUptoSaid : Prop := namesLongUptoRow.holds Tryd.pinned (OpenSpec.upto namesLongSpec)

/-- 'rubricatorlaw05.NamesBack', WHERE WHAT IT READS IS OF BULK AT MOST 1048576: true; the input reads as it did. -/
def namesBackUptoRow : OpenClaim := { program := "ytooehjbbphokbaadoor", sum := "dfd9a0b61b2cdc099b29941fbf9ee1bdac7d96f1fb08744d847b8c0d50f4767d", func := "rubricator/rubricatorlaw05.NamesBack", spec := "namesBack", inPlace := ["internal/bytealg.IndexByteString", "internal/bytealg.IndexString", "internal/bytealg.CountString"], named := ["unicode/utf8.first", "unicode/utf8.acceptRanges", "internal/bytealg.MaxLen"], apart := false, laid := [("unicode/utf8.acceptRanges", laid_unicode_utf8_acceptRanges), ("unicode/utf8.first", laid_unicode_utf8_first)], narrowed := true }
def NamesBackUptoSaid : Prop := namesBackUptoRow.holds Tryd.pinned (OpenSpec.upto namesBackSpec)

/-- 'rubricatorlaw02.LinesPrint', WHERE WHAT IT READS IS OF BULK AT MOST 1048576: true; the input reads as it did. -/
def linesPrintUptoRow : OpenClaim := { program := "ytooehjbbphokbaadoor", sum := "dfd9a0b61b2cdc099b29941fbf9ee1bdac7d96f1fb08744d847b8c0d50f4767d", func := "rubricator/rubricatorlaw02.LinesPrint", spec := "linesPrint", inPlace := ["internal/abi.NoEscape", "internal/bytealg.IndexByteString", "internal/bytealg.IndexString", "internal/bytealg.CountString"], named := ["unicode/utf8.first", "unicode/utf8.acceptRanges", "internal/bytealg.MaxLen"], apart := false, laid := [("unicode/utf8.acceptRanges", laid_unicode_utf8_acceptRanges), ("unicode/utf8.first", laid_unicode_utf8_first)], narrowed := true }
def LinesPrintUptoSaid : Prop := linesPrintUptoRow.holds Tryd.pinned (OpenSpec.upto linesPrintSpec)

/-- 'rubricatorlaw02.LinesBack', WHERE WHAT IT READS IS OF BULK AT MOST 1048576: true; the input reads as it did. -/
def linesBackUptoRow : OpenClaim := { program := "ytooehjbbphokbaadoor", sum := "dfd9a0b61b2cdc099b29941fbf9ee1bdac7d96f1fb08744d847b8c0d50f4767d", func := "rubricator/rubricatorlaw02.LinesBack", spec := "linesBack", inPlace := ["internal/abi.NoEscape", "internal/bytealg.IndexByteString", "internal/bytealg.IndexString", "internal/bytealg.CountString"], unfollowed := true, recurses := true, named := ["unicode/utf8.first", "unicode/utf8.acceptRanges", "internal/bytealg.MaxLen"], apart := false, laid := [("unicode/utf8.acceptRanges", laid_unicode_utf8_acceptRanges), ("unicode/utf8.first", laid_unicode_utf8_first)], narrowed := true }
def LinesBackUptoSaid : Prop := linesBackUptoRow.holds Tryd.pinned (OpenSpec.upto linesBackSpec)

/-- 'rubricatorlaw02.LinesIdle', WHERE WHAT IT READS IS OF BULK AT MOST 1048576: true; the input reads as it did. -/
def linesIdleUptoRow : OpenClaim := { program := "ytooehjbbphokbaadoor", sum := "dfd9a0b61b2cdc099b29941fbf9ee1bdac7d96f1fb08744d847b8c0d50f4767d", func := "rubricator/rubricatorlaw02.LinesIdle", spec := "linesIdle", inPlace := ["internal/bytealg.CountString", "internal/bytealg.IndexByteString", "internal/bytealg.IndexString", "internal/abi.NoEscape"], unfollowed := true, recurses := true, named := ["unicode/utf8.first", "unicode/utf8.acceptRanges", "internal/bytealg.MaxLen"], apart := false, laid := [("unicode/utf8.acceptRanges", laid_unicode_utf8_acceptRanges), ("unicode/utf8.first", laid_unicode_utf8_first)], narrowed := true }
def LinesIdleUptoSaid : Prop := linesIdleUptoRow.holds Tryd.pinned (OpenSpec.upto linesIdleSpec)

/-- 'rubricatorlaw05.NamesSame', WHERE WHAT IT READS IS OF BULK AT MOST 1048576: true; the input reads as it did. -/
def namesSameUptoRow : OpenClaim := { program := "ytooehjbbphokbaadoor", sum := "dfd9a0b61b2cdc099b29941fbf9ee1bdac7d96f1fb08744d847b8c0d50f4767d", func := "rubricator/rubricatorlaw05.NamesSame", spec := "namesSame", inPlace := ["internal/bytealg.IndexByteString", "internal/bytealg.IndexString", "internal/bytealg.CountString", "internal/abi.NoEscape", "internal/bytealg.MakeNoZero"], unfollowed := true, recurses := true, named := ["unicode/utf8.first", "unicode/utf8.acceptRanges", "internal/bytealg.MaxLen", "unicode.CaseRanges"], apart := false, laid := [("unicode/utf8.acceptRanges", laid_unicode_utf8_acceptRanges), ("unicode.CaseRanges", laid_unicode_CaseRanges), ("unicode/utf8.first", laid_unicode_utf8_first)], narrowed := true }
def NamesSameUptoSaid : Prop := namesSameUptoRow.holds Tryd.pinned (OpenSpec.upto namesSameSpec)

end Rows
end Go.Proofs.YtooehjbbphokbaaDoor
