/- Walk of the law LinesHex. -/
import Derived.Test.YtooehjbbphokbaaDoorLnF
import Derived.Test.YtooehjbbphokbaaDoorLnB
namespace Go.Proofs.YtooehjbbphokbaaDoor
set_option linter.unusedVariables false
set_option linter.unusedSimpArgs false
open Go.RowKit Go.Proofs.YtooehjbbphokbaaDoorW.PrintWords Go.Proofs.YtooehjbbphokbaaDoorW.PrintLast Go.Proofs.YtooehjbbphokbaaDoorW.PrintMore

set_option maxHeartbeats 4000000 in
set_option maxRecDepth 100000 in
theorem LinesHex_walk (w : World) (s : ByteArray) (m : Int) (hm : MaxIs w m) :
    Calls Tryd.prog 3 #[.string s] w fun e w' => e = .returned (.bool true) ∧ Below w.heap.size w w' := by
  have HM := Aside0.mk hm
  clear hm
  go_enter Tryd.func3, Tryd.ntmps3
  go_wp2_with fail
  refine (hex_any s _).mono ?_
  rintro e w1 ⟨rfl, hb⟩
  have HB1 := Aside0.mk hb
  clear hb
  obtain ⟨n, hn⟩ : ∃ n, (hexAns s).1 = n := ⟨_, rfl⟩
  obtain ⟨b, hbb⟩ : ∃ b, (hexAns s).2 = b := ⟨_, rfl⟩
  have HN := Aside0.mk hn
  have HBB := Aside0.mk hbb
  rw [hn, hbb]
  clear hn hbb
  go_wp2_with fail
  refine (refHex_any s _).mono ?_
  rintro e w2 ⟨rfl, hb⟩
  have HB2 : Aside0 (Below w.heap.size w w2) := ⟨below_to HB1.out hb⟩
  rw [HN.out, HBB.out]
  clear hb
  go_wp2_with fail
  refine (awake_any m w2 (HM.out.below HB2.out)).mono ?_
  rintro e w3 ⟨rfl, hb⟩
  have HB3 : Aside0 (Below w.heap.size w w3) := ⟨below_to HB2.out hb⟩
  clear hb
  go_wp2
  go_ret
  exact ⟨rfl, HB3.out⟩

end Go.Proofs.YtooehjbbphokbaaDoor
