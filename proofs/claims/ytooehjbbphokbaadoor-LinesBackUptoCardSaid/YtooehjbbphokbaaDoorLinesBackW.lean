/- Walk of the law LinesBack. -/
import Derived.Test.YtooehjbbphokbaaDoorLnF
import Derived.Test.YtooehjbbphokbaaDoorLnS
import Derived.Test.YtooehjbbphokbaaDoorLnI
import Derived.Test.YtooehjbbphokbaaDoorLnN
import Derived.Test.YtooehjbbphokbaaDoorLnO
import Derived.Test.YtooehjbbphokbaaDoorUpK
namespace Go.Proofs.YtooehjbbphokbaaDoor
set_option linter.unusedVariables false
set_option linter.unusedSimpArgs false
open Go.RowKit Go.Proofs.YtooehjbbphokbaaDoorW.PrintWords Go.Proofs.YtooehjbbphokbaaDoorW.PrintLast Go.Proofs.YtooehjbbphokbaaDoorW.PrintMore Go.Proofs.YtooehjbbphokbaaDoor.PLinesRead

theorem printL_or (l : List Rc) : (printL l = (⟨#[]⟩, 1)) ∨ ((∀ r ∈ l, recOk r = true) ∧ printL l = (bsL (textT l), 0)) := by
  by_cases h : l.all recOk = true
  · exact .inr ⟨List.all_eq_true.1 h, by unfold printL; rw [if_pos h]⟩
  · exact .inl (by unfold printL; rw [if_neg h])

set_option maxHeartbeats 4000000 in
set_option maxRecDepth 100000 in
theorem LinesBack_walk (w : World) (v : Value) (l : List Rc) (hv : RdS kRc w v l) (m : Int) (hm : MaxIs w m) (hb : kW l ≤ 1048576) :
    Calls Tryd.prog 11 #[v] w fun e w' => e = .returned (.bool true) ∧ Below w.heap.size w w' := by
  have HV := Aside0.mk hv
  obtain ⟨A, c, rfl, hc, hC⟩ := hv
  have hk := kW_text l
  have hf : ∀ r ∈ l, r.f2.length < 4294967290 := fun r hr => by have := kW_f2 l r hr; omega
  have H1 := Aside0.mk (print_any A c l w hC hc (by omega) hf (by omega))
  have H2 := Aside0.mk (fun W (hw : Below w.heap.size w W) => refPrint_any A c l W (Kd.C_below hC hw) hc (by omega) hf (by omega))
  have HM := Aside0.mk hm
  rcases printL_or l with hp | ⟨hok, hp⟩
  · rw [hp] at H1 H2
    clear hp hf hk hC hm hb hc
    go_enter Tryd.func11, Tryd.ntmps11
    go_wp2_with fail
    refine H1.out.mono ?_
    rintro e w1 ⟨rfl, hb1⟩
    have HB1 := Aside0.mk hb1
    clear hb1
    go_wp2_with fail
    refine (H2.out _ HB1.out).mono ?_
    rintro e w2 ⟨rfl, hb2⟩
    have HB2 : Aside0 (Below w.heap.size w w2) := ⟨below_to HB1.out hb2⟩
    clear hb2
    go_wp2_with fail
    refine (awake_any m _ (HM.out.below HB2.out)).mono ?_
    rintro e w3 ⟨rfl, hb3⟩
    have HB3 : Aside0 (Below w.heap.size w w3) := ⟨below_to HB2.out hb3⟩
    clear hb3
    go_wp2
    go_ret
    exact ⟨rfl, HB3.out⟩
  · rw [hp] at H1
    have hpp := parse_print l hok
    have hsz : (bsL (textT l)).size < 4294967281 := by rw [size_bsL]; omega
    obtain ⟨s, hs⟩ : ∃ s, bsL (textT l) = s := ⟨_, rfl⟩
    rw [hs] at H1 hpp hsz
    have H3 := Aside0.mk (fun W hm => parse_any s m W hsz hm)
    rw [hpp] at H3
    have H4 := Aside0.mk (fun W v1 v2 h1 h2 => sameRec_any l W v1 v2 h1 h2 (by omega) (fun q hq => by have := hf q hq; omega))
    clear hp hf hk hC hm hb hc hok hpp hs hsz H2
    go_enter Tryd.func11, Tryd.ntmps11
    go_wp2_with fail
    refine H1.out.mono ?_
    rintro e w1 ⟨rfl, hb1⟩
    have HB1 := Aside0.mk hb1
    clear hb1
    go_wp2_with fail
    refine (H3.out _ (HM.out.below HB1.out)).mono ?_
    rintro e w2 ⟨v2, rfl, ho2, hb2⟩
    have HB2 : Aside0 (Below w.heap.size w w2) := ⟨below_to HB1.out hb2⟩
    have HV2 : Aside0 (RdS kRc w2 v2 l) := ⟨RdS.of_R ho2⟩
    clear hb2 ho2
    go_wp2_with fail
    refine (H4.out _ _ v2 (HV.out.below HB2.out) HV2.out).mono ?_
    rintro e w3 ⟨rfl, hb3⟩
    have HB3 : Aside0 (Below w.heap.size w w3) := ⟨below_to HB2.out hb3⟩
    clear hb3
    go_wp2_with fail
    refine (awake_any m _ (HM.out.below HB3.out)).mono ?_
    rintro e w4 ⟨rfl, hb4⟩
    have HB4 : Aside0 (Below w.heap.size w w4) := ⟨below_to HB3.out hb4⟩
    clear hb4
    go_wp2
    go_ret
    exact ⟨rfl, HB4.out⟩

end Go.Proofs.YtooehjbbphokbaaDoor
