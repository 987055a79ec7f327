/- Walk of the law NamesResolve. -/
import Derived.Test.YtooehjbbphokbaaDoorNmY
namespace Go.Proofs.YtooehjbbphokbaaDoor
set_option linter.unusedVariables false
set_option linter.unusedSimpArgs false
open Go.RowKit Go.Proofs.YtooehjbbphokbaaDoorW.PrintWords Go.Proofs.YtooehjbbphokbaaDoorW.PrintLast Go.Proofs.YtooehjbbphokbaaDoorW.PrintMore

set_option maxHeartbeats 4000000 in
set_option maxRecDepth 100000 in
theorem NamesResolve_walk (w : World) (s : ByteArray) (m : Int) (hm : MaxIs w m) (hs : s.size ≤ 1048576) :
    Calls Tryd.prog 7 #[.string s] w fun e w' => e = .returned (.bool true) ∧ Below w.heap.size w w' := by
  obtain ⟨b, hal⟩ := alias_ex
  have HA := Aside0.mk (fun W hm => awake5_any b hal m W hm)
  have H1 := Aside0.mk (fun W hm => resolve_all b hal s m W hm (by omega))
  have H2 := Aside0.mk (fun W => refResolve_any b hal s W (by omega))
  have HM := Aside0.mk hm
  obtain ⟨r, hr⟩ : ∃ r, resolveL (rowsB b) s = r := ⟨_, rfl⟩
  rw [hr] at H1 H2
  obtain ⟨n, v, c⟩ := r
  simp only at H1 H2
  clear hal hm hr
  go_enter Tryd.func7, Tryd.ntmps7
  go_wp2_with fail
  refine (H1.out _ HM.out).mono ?_
  rintro e w1 ⟨rfl, hb1⟩
  have HB1 := Aside0.mk hb1
  clear hb1
  go_wp2_with fail
  refine (H2.out _).mono ?_
  rintro e w2 ⟨rfl, hb2⟩
  have HB2 : Aside0 (Below w.heap.size w w2) := ⟨below_to HB1.out hb2⟩
  clear hb2
  go_wp2_with fail
  refine (HA.out _ (HM.out.below HB2.out)).mono ?_
  rintro e w3 ⟨rfl, hb3⟩
  have HB3 : Aside0 (Below w.heap.size w w3) := ⟨below_to HB2.out hb3⟩
  clear hb3
  go_wp2
  go_ret
  exact ⟨rfl, HB3.out⟩

end Go.Proofs.YtooehjbbphokbaaDoor
