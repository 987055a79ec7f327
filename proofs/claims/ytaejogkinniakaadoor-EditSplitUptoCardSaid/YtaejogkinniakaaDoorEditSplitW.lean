/- Walk of the law EditSplit. -/
import Derived.Test.YtaejogkinniakaaDoorEdW
import Derived.Test.YtaejogkinniakaaDoorEdX
namespace Go.Proofs.YtaejogkinniakaaDoor
set_option linter.unusedVariables false
set_option linter.unusedSimpArgs false
open Go.RowKit Go.Proofs.YtaejogkinniakaaDoorW.PrintWords Go.Proofs.YtaejogkinniakaaDoorW.PrintLast Go.Proofs.YtaejogkinniakaaDoorW.PrintMore Go.Proofs.YtaejogkinniakaaDoor.PEd

set_option maxHeartbeats 8000000 in
set_option maxRecDepth 100000 in
theorem EditSplit_walk (w : World) (A : Option Addr) (cA : Nat) (b : List Int) (Al : Option Addr) (cl : Nat) (l : List S46)
    (hb : Kd.C kB w A b.length b) (hcA : b.length ≤ cA) (hl : Kd.C k46 w Al l.length l) (hcl : l.length ≤ cl) (hn : b.length ≤ 1048576) (hm : l.length ≤ 1048576) :
    Calls Tryd.prog 5 #[.slice A b.length cA, .slice Al l.length cl] w fun e w' => e = .returned (.bool true) ∧ Below w.heap.size w w' := by
  have HCL := Aside0.mk (cloneB_any w (.slice A b.length cA) b ⟨A, cA, rfl, hcA, hb⟩ (by omega))
  have HREF := Aside0.mk (fun W hW => refSplit_any W A cA b Al cl l (Kd.C_below hb hW) hcA (Kd.C_below hl hW) hcl hn hm)
  have HSP := Aside0.mk (fun W (hW : Below w.heap.size w W) A' c' (h1 : Kd.C kB W A' b.length b) (h2 : b.length ≤ c') => split_any W A' c' b Al cl l h1 h2 (Kd.C_below hl hW) (by omega) hm)
  have HB := Aside0.mk (And.intro hb hcA)
  have hgl := gapsL_len b 0 (oneL l)
  rw [oneL_len] at hgl
  have HGL := Aside0.mk hgl
  have HLM := Aside0.mk hm
  clear hb hl hm hn hcA hgl
  go_enter Tryd.func5, Tryd.ntmps5
  go_wp2_with fail
  refine HCL.out.mono ?_
  rintro e w1 ⟨v1, rfl, ho1, hb1⟩
  have HB1 := Aside0.mk hb1
  obtain ⟨A1, c1, rfl, hle1, hC1⟩ := Kd.R_reads ho1
  have HC1 := Aside0.mk (And.intro hle1 hC1)
  have HS1 := Aside0.mk (HSP.out w1 hb1 A1 c1 hC1 hle1)
  clear ho1 hb1 hle1 hC1
  go_wp2_with fail
  refine HS1.out.mono ?_
  rintro e w2 (⟨hmay, ⟨v, rfl, ho⟩, hb2⟩ | ⟨hmay, rfl, hb2⟩)
  · have hsr : splitR b (oneL l) = (gapsL b 0 (oneL l), 0) := if_pos hmay
    have HB2 : Aside0 (Below w.heap.size w w2) := ⟨below_to HB1.out hb2⟩
    have HB12 := Aside0.mk hb2
    have HO := Aside0.mk ho
    have HR := Aside0.mk (HREF.out w2 HB2.out)
    rw [hsr] at HR
    clear hmay hb2 ho hsr
    go_wp2_with fail
    refine HR.out.mono ?_
    rintro e w3 ⟨v3, rfl, ho3, hb3⟩
    have HB3 : Aside0 (Below w.heap.size w w3) := ⟨below_to HB2.out hb3⟩
    have HB13 : Aside0 (Below w1.heap.size w1 w3) := ⟨below_to HB12.out hb3⟩
    have HO3 := Aside0.mk (Kd.R_below HO.out hb3)
    have HST := Aside0.mk (sameTexts_any w3 v v3 _ (RdS.of_R HO3.out) (RdS.of_R ho3))
    clear hb3 ho3
    go_wp2_with fail
    refine HST.out.mono ?_
    rintro e w4 ⟨rfl, hb4⟩
    have HB4 : Aside0 (Below w.heap.size w w4) := ⟨below_to HB3.out hb4⟩
    have HB14 : Aside0 (Below w1.heap.size w1 w4) := ⟨below_to HB13.out hb4⟩
    have HO4 := Aside0.mk (Kd.R_below HO3.out hb4)
    clear hb4
    obtain ⟨hs, hhl, hsp⟩ := SpR.of HO4.out
    have HSPL := Aside0.mk (spoil_any w4 w1.heap.size v hs hsp (by have := HGL.out; have := HLM.out; omega))
    clear hsp hhl
    go_wp2_with fail
    refine HSPL.out.mono ?_
    rintro e w5 ⟨rfl, -, hb5⟩
    have HB15 : Aside0 (Below w1.heap.size w1 w5) := ⟨HB14.out.trans hb5⟩
    have HB5 : Aside0 (Below w.heap.size w w5) := ⟨below_to HB1.out HB15.out⟩
    have HRA : Aside0 (RdS kB w5 (.slice A1 b.length c1) b) := ⟨⟨A1, c1, rfl, HC1.out.1, Kd.C_below HC1.out.2 HB15.out⟩⟩
    have HRB : Aside0 (RdS kB w5 (.slice A b.length cA) b) := ⟨⟨A, cA, rfl, HB.out.2, Kd.C_below HB.out.1 HB5.out⟩⟩
    clear hb5
    go_wp2_with fail
    refine (equalB_any _ _ _ b HRA.out HRB.out).mono ?_
    rintro e w6 ⟨rfl, hb6⟩
    have HB6 : Aside0 (Below w.heap.size w w6) := ⟨below_to HB5.out hb6⟩
    clear hb6
    go_wp2_with fail
    refine (awake_any _).mono ?_
    rintro e w7 ⟨rfl, hb7⟩
    have HB7 : Aside0 (Below w.heap.size w w7) := ⟨below_to HB6.out hb7⟩
    clear hb7
    go_wp2
    go_ret
    exact ⟨rfl, HB7.out⟩
  · have hsr : splitR b (oneL l) = ([], 1) := if_neg hmay
    have HB2 : Aside0 (Below w.heap.size w w2) := ⟨below_to HB1.out hb2⟩
    have HB12 := Aside0.mk hb2
    have HR := Aside0.mk (HREF.out w2 HB2.out)
    rw [hsr] at HR
    clear hmay hb2 hsr
    go_wp2_with fail
    refine HR.out.mono ?_
    rintro e w3 ⟨v3, rfl, ho3, hb3⟩
    have HB3 : Aside0 (Below w.heap.size w w3) := ⟨below_to HB2.out hb3⟩
    have HB13 : Aside0 (Below w1.heap.size w1 w3) := ⟨below_to HB12.out hb3⟩
    have HST := Aside0.mk (sameTexts_any w3 (.slice none 0 0) v3 [] (RdS.nil _ _) (RdS.of_R ho3))
    clear hb3 ho3
    go_wp2_with fail
    refine HST.out.mono ?_
    rintro e w4 ⟨rfl, hb4⟩
    have HB4 : Aside0 (Below w.heap.size w w4) := ⟨below_to HB3.out hb4⟩
    have HB14 : Aside0 (Below w1.heap.size w1 w4) := ⟨below_to HB13.out hb4⟩
    clear hb4
    have HSPL := Aside0.mk (spoil_any w4 w1.heap.size (.slice none 0 0) [] ⟨own_nil _ _ _ _, fun h hh => by cases hh⟩ (by decide))
    go_wp2_with fail
    refine HSPL.out.mono ?_
    rintro e w5 ⟨rfl, -, hb5⟩
    have HB15 : Aside0 (Below w1.heap.size w1 w5) := ⟨HB14.out.trans hb5⟩
    have HB5 : Aside0 (Below w.heap.size w w5) := ⟨below_to HB1.out HB15.out⟩
    have HRA : Aside0 (RdS kB w5 (.slice A1 b.length c1) b) := ⟨⟨A1, c1, rfl, HC1.out.1, Kd.C_below HC1.out.2 HB15.out⟩⟩
    have HRB : Aside0 (RdS kB w5 (.slice A b.length cA) b) := ⟨⟨A, cA, rfl, HB.out.2, Kd.C_below HB.out.1 HB5.out⟩⟩
    clear hb5
    go_wp2_with fail
    refine (equalB_any _ _ _ b HRA.out HRB.out).mono ?_
    rintro e w6 ⟨rfl, hb6⟩
    have HB6 : Aside0 (Below w.heap.size w w6) := ⟨below_to HB5.out hb6⟩
    clear hb6
    go_wp2_with fail
    refine (awake_any _).mono ?_
    rintro e w7 ⟨rfl, hb7⟩
    have HB7 : Aside0 (Below w.heap.size w w7) := ⟨below_to HB6.out hb7⟩
    clear hb7
    go_wp2
    go_ret
    exact ⟨rfl, HB7.out⟩

end Go.Proofs.YtaejogkinniakaaDoor
