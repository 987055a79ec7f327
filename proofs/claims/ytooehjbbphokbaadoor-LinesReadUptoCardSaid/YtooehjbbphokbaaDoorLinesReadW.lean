/- Walk of the law LinesRead. -/
import Derived.Test.YtooehjbbphokbaaDoorLnF
import Derived.Test.YtooehjbbphokbaaDoorLnS
import Derived.Test.YtooehjbbphokbaaDoorLnT
import Derived.Test.YtooehjbbphokbaaDoorLnU
namespace Go.Proofs.YtooehjbbphokbaaDoor
set_option linter.unusedVariables false
set_option linter.unusedSimpArgs false
open Go.RowKit Go.Proofs.YtooehjbbphokbaaDoorW.PrintWords Go.Proofs.YtooehjbbphokbaaDoorW.PrintLast Go.Proofs.YtooehjbbphokbaaDoorW.PrintMore Go.Proofs.YtooehjbbphokbaaDoor.PLinesRead

theorem refParse_any (s : ByteArray) (w : World) (hs : s.size < 4294967281) :
    Calls Tryd.prog 19 #[.string s] w fun e w' => ∃ v, e = .returned (.tuple #[v, .int .i64 (parseB s).2.1, .int .i64 (parseB s).2.2]) ∧ RdS kRc w' v (parseB s).1 ∧ Below w.heap.size w w' := by
  obtain ⟨k, hk⟩ := (parse_ev s hs).rounds
  refine (rubricatorref02_Parse.calls k s (parseB s).1 (parseB s).2.1 (parseB s).2.2 w hk).mono ?_
  rintro e w1 ⟨v, rfl, h, hb⟩
  exact ⟨v, rfl, RdS.of_R (Kd.S_R h), hb⟩
theorem refRows_any (s : ByteArray) (w : World) (hs : s.size < 4294967281) :
    Calls Tryd.prog 22 #[.string s] w fun e w' => ∃ v, e = .returned v ∧ RdS kSs w' v (rowsB s) ∧ Below w.heap.size w w' := by
  obtain ⟨k, hk⟩ := (rows_ev s hs).rounds
  refine (rubricatorref02_Rows.calls k s (rowsB s) w hk).mono ?_
  rintro e w1 ⟨v, rfl, h, hb⟩
  exact ⟨v, rfl, RdS.of_R (Kd.S_R h), hb⟩

set_option maxHeartbeats 4000000 in
set_option maxRecDepth 100000 in
theorem LinesRead_walk (w : World) (s : ByteArray) (m : Int) (hm : MaxIs w m) (hs : s.size ≤ 1048576) :
    Calls Tryd.prog 5 #[.string s] w fun e w' => e = .returned (.bool true) ∧ Below w.heap.size w w' := by
  have HM := Aside0.mk hm
  clear hm
  have h1 := fun W hm => parse_any s m W (by omega) hm
  have h2 := fun W => refParse_any s W (by omega)
  have hpl := parseB_len s
  have hpf := parseB_f2 s
  have h3 := fun W hm => rows_any s m W (by omega) hm
  have h4 := fun W => refRows_any s W (by omega)
  have hrl := rowsB_len s
  have hrf := rowsB_f s
  obtain ⟨E, hE⟩ : ∃ E, parseB s = E := ⟨_, rfl⟩
  obtain ⟨R, hR⟩ : ∃ R, rowsB s = R := ⟨_, rfl⟩
  rw [hE] at h1 h2 hpl hpf
  rw [hR] at h3 h4 hrl hrf
  obtain ⟨l, a, e⟩ := E
  simp only at h1 h2 hpl hpf
  have H1 := Aside0.mk h1
  have H2 := Aside0.mk h2
  have H3 := Aside0.mk h3
  have H4 := Aside0.mk h4
  have HPF : Aside0 (∀ q ∈ l, q.f2.length < 4611686018427387904) := ⟨fun q hq => by have := hpf q hq; omega⟩
  have HRF : Aside0 (∀ q ∈ R, q.length < 4611686018427387904) := ⟨fun q hq => by have := hrf q hq; omega⟩
  clear h1 h2 h3 h4 hpf hrf hE hR
  go_enter Tryd.func5, Tryd.ntmps5
  go_wp2_with fail
  refine (H1.out _ HM.out).mono ?_
  rintro e1 w1 ⟨v1, rfl, ho1, hb1⟩
  have HB1 := Aside0.mk hb1
  have HV1 : Aside0 (RdS kRc w1 v1 l) := ⟨RdS.of_R ho1⟩
  clear ho1 hb1
  go_wp2_with fail
  refine (H2.out _).mono ?_
  rintro e2 w2 ⟨v2, rfl, hr2, hb2⟩
  have HB2 : Aside0 (Below w.heap.size w w2) := ⟨below_to HB1.out hb2⟩
  have HV1b := Aside0.mk (HV1.out.below hb2)
  have HV2 := Aside0.mk hr2
  clear hr2 hb2 HV1
  go_wp2_with fail
  refine (H3.out _ (HM.out.below HB2.out)).mono ?_
  rintro e3 w3 ⟨v3, rfl, ho3, hb3⟩
  have HB3 : Aside0 (Below w.heap.size w w3) := ⟨below_to HB2.out hb3⟩
  have HV1c := Aside0.mk (HV1b.out.below hb3)
  have HV2c := Aside0.mk (HV2.out.below hb3)
  have HV3 : Aside0 (RdS kSs w3 v3 R) := ⟨RdS.of_R ho3⟩
  clear ho3 hb3 HV1b HV2
  go_wp2_with fail
  refine (H4.out _).mono ?_
  rintro e4 w4 ⟨v4, rfl, hr4, hb4⟩
  have HB4 : Aside0 (Below w.heap.size w w4) := ⟨below_to HB3.out hb4⟩
  have HV1d := Aside0.mk (HV1c.out.below hb4)
  have HV2d := Aside0.mk (HV2c.out.below hb4)
  have HV3d := Aside0.mk (HV3.out.below hb4)
  have HV4 := Aside0.mk hr4
  clear hr4 hb4 HV1c HV2c HV3
  go_wp2_with fail
  refine (eqRows_any R _ v3 v4 HV3d.out HV4.out (by omega) HRF.out).mono ?_
  rintro e5 w5 ⟨rfl, hb5⟩
  have HB5 : Aside0 (Below w.heap.size w w5) := ⟨below_to HB4.out hb5⟩
  have HV1e := Aside0.mk (HV1d.out.below hb5)
  have HV2e := Aside0.mk (HV2d.out.below hb5)
  clear hb5 HV1d HV2d HV3d HV4
  go_wp2_with fail
  refine (sameRec_any l _ v1 v2 HV1e.out HV2e.out (by omega) HPF.out).mono ?_
  rintro e6 w6 ⟨rfl, hb6⟩
  have HB6 : Aside0 (Below w.heap.size w w6) := ⟨below_to HB5.out hb6⟩
  clear hb6 HV1e HV2e
  go_wp2_with fail
  refine (awake_any m _ (HM.out.below HB6.out)).mono ?_
  rintro e7 w7 ⟨rfl, hb7⟩
  have HB7 : Aside0 (Below w.heap.size w w7) := ⟨below_to HB6.out hb7⟩
  clear hb7
  go_wp2
  go_ret
  exact ⟨rfl, HB7.out⟩

end Go.Proofs.YtooehjbbphokbaaDoor
