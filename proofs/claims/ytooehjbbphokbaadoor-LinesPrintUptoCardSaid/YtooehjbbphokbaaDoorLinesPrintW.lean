/- Walk of the law LinesPrint. -/
import Derived.Test.YtooehjbbphokbaaDoorLnF
import Derived.Test.YtooehjbbphokbaaDoorLnI
import Derived.Test.YtooehjbbphokbaaDoorLnN
import Derived.Test.YtooehjbbphokbaaDoorUpK
namespace Go.Proofs.YtooehjbbphokbaaDoor
set_option linter.unusedVariables false
set_option linter.unusedSimpArgs false
open Go.RowKit Go.Proofs.YtooehjbbphokbaaDoorW.PrintWords Go.Proofs.YtooehjbbphokbaaDoorW.PrintLast Go.Proofs.YtooehjbbphokbaaDoorW.PrintMore Go.Proofs.YtooehjbbphokbaaDoor.PLinesRead

set_option maxHeartbeats 4000000 in
set_option maxRecDepth 100000 in
theorem LinesPrint_walk (w : World) (v : Value) (l : List Rc) (hv : RdS kRc w v l) (m : Int) (hm : MaxIs w m) (hb : kW l ≤ 1048576) :
    Calls Tryd.prog 10 #[v] w fun e w' => e = .returned (.bool true) ∧ Below w.heap.size w w' := by
  obtain ⟨A, c, rfl, hc, hC⟩ := hv
  have hk := kW_text l
  have hf : ∀ r ∈ l, r.f2.length < 4294967290 := fun r hr => by have := kW_f2 l r hr; omega
  have H1 := Aside0.mk (print_any A c l w hC hc (by omega) hf (by omega))
  have H2 := Aside0.mk (fun W (hw : Below w.heap.size w W) => refPrint_any A c l W (Kd.C_below hC hw) hc (by omega) hf (by omega))
  obtain ⟨R, hR⟩ : ∃ R, printL l = R := ⟨_, rfl⟩
  rw [hR] at H1 H2
  obtain ⟨s, n⟩ := R
  simp only at H1 H2
  have HM := Aside0.mk hm
  clear hR hf hk hC hm hb hc
  go_enter Tryd.func10, Tryd.ntmps10
  go_wp2_with fail
  refine H1.out.mono ?_
  rintro e w1 ⟨rfl, hb1⟩
  have HB1 := Aside0.mk hb1
  clear hb1
  go_wp2_with fail
  refine (H2.out _ HB1.out).mono ?_
  rintro e w2 ⟨rfl, hb2⟩
  have HB2 : Aside0 (Below w.heap.size w w2) := ⟨below_to HB1.out hb2⟩
  clear hb2
  go_wp2_with fail
  refine (awake_any m _ (HM.out.below HB2.out)).mono ?_
  rintro e w3 ⟨rfl, hb3⟩
  have HB3 : Aside0 (Below w.heap.size w w3) := ⟨below_to HB2.out hb3⟩
  clear hb3
  go_wp2
  go_ret
  exact ⟨rfl, HB3.out⟩

end Go.Proofs.YtooehjbbphokbaaDoor
