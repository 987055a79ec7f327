/- The reference's Parse and Rows, as contracts. -/
import Derived.Test.YtooehjbbphokbaaDoorLnS
import Derived.Test.YtooehjbbphokbaaDoorLnT
import Derived.Test.YtooehjbbphokbaaDoorLnU
namespace Go.Proofs.YtooehjbbphokbaaDoor
set_option linter.unusedVariables false
set_option linter.unusedSimpArgs false
open Go.RowKit Go.Proofs.YtooehjbbphokbaaDoorW.PrintWords Go.Proofs.YtooehjbbphokbaaDoorW.PrintLast Go.Proofs.YtooehjbbphokbaaDoorW.PrintMore Go.Proofs.YtooehjbbphokbaaDoor.PLinesRead

theorem refParse_any (s : ByteArray) (w : World) (hs : s.size < 4294967281) :
    Calls Tryd.prog 19 #[.string s] w fun e w' => ∃ v, e = .returned (.tuple #[v, .int .i64 (parseB s).2.1, .int .i64 (parseB s).2.2]) ∧ RdS kRc w' v (parseB s).1 ∧ Below w.heap.size w w' := by
  obtain ⟨k, hk⟩ := (parse_ev s hs).rounds
  refine (rubricatorref02_Parse.calls k s (parseB s).1 (parseB s).2.1 (parseB s).2.2 w hk).mono ?_
  rintro e w1 ⟨v, rfl, h, hb⟩
  exact ⟨v, rfl, RdS.of_R (Kd.S_R h), hb⟩
theorem refRows_any (s : ByteArray) (w : World) (hs : s.size < 4294967281) :
    Calls Tryd.prog 22 #[.string s] w fun e w' => ∃ v, e = .returned v ∧ RdS kSs w' v (rowsB s) ∧ Below w.heap.size w w' := by
  obtain ⟨k, hk⟩ := (rows_ev s hs).rounds
  refine (rubricatorref02_Rows.calls k s (rowsB s) w hk).mono ?_
  rintro e w1 ⟨v, rfl, h, hb⟩
  exact ⟨v, rfl, RdS.of_R (Kd.S_R h), hb⟩

end Go.Proofs.YtooehjbbphokbaaDoor
