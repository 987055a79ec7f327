/- Walk of the law LinesApart. -/
import Derived.Test.YtooehjbbphokbaaDoorLnF
import Derived.Test.YtooehjbbphokbaaDoorLnS
import Derived.Test.YtooehjbbphokbaaDoorLnV
namespace Go.Proofs.YtooehjbbphokbaaDoor
set_option linter.unusedVariables false
set_option linter.unusedSimpArgs false
open Go.RowKit Go.Proofs.YtooehjbbphokbaaDoorW.PrintWords Go.Proofs.YtooehjbbphokbaaDoorW.PrintLast Go.Proofs.YtooehjbbphokbaaDoorW.PrintMore Go.Proofs.YtooehjbbphokbaaDoor.PLinesRead

theorem wpList_wanted {P : Program} {ops : Array Oper} {Q : Exit → Act → World → Prop} {a : Act} {W : World} {rest : List Oper} {o : Oper} (hw : Region.wanted o (yielded ops a.tmps) = true)
    (h : if Region.wanted o (yielded ops a.tmps) = true then Oper.wp P o a W (wpList P ops Q rest) Q else wpList P ops Q rest (a.put o.dst undef) W) : wpList P ops Q (o :: rest) a W := by
  rw [if_pos hw] at h
  show if Region.wanted o (yielded ops a.tmps) = true then _ else _
  rw [if_pos hw]
  exact .inl h
theorem reads_own {W : World} {base : Nat} {ok : Nat → Prop} {v : Value} {l : List Rc} (h : kRc.R 48 W base ok v l) :
    ∃ A c, v = .slice A l.length c ∧ ReadsRow (kRc.M W base (fun k => ok k ∧ some k ≠ v.ownBlock)) kRc.sz W A l.length l := by
  obtain ⟨_, inner, ho, hr⟩ := h
  exact own_reads_row ho hr rfl

set_option maxHeartbeats 4000000 in
set_option maxRecDepth 100000 in
theorem LinesApart_walk (w : World) (a b : ByteArray) (m : Int) (hm : MaxIs w m) (hs : a.size + b.size ≤ 1048576) :
    Calls Tryd.prog 4 #[.string a, .string b] w fun e w' => e = .returned (.bool true) ∧ Below w.heap.size w w' := by
  have hzs : (a ++ ⟨#[10]⟩ ++ b).size < 4294967281 := by
    rw [ByteArray.size_append, ByteArray.size_append]
    show a.size + 1 + b.size < 4294967281
    omega
  have HM := Aside0.mk hm
  clear hm
  have H1 := Aside0.mk (fun W hm => parse_any a m W (by omega) hm)
  have H2 := Aside0.mk (fun W hm => parse_any b m W (by omega) hm)
  have H3 := Aside0.mk (fun W hm => parse_any (a ++ ⟨#[10]⟩ ++ b) m W hzs hm)
  have hXl := parseB_len a
  have hYl := parseB_len b
  have hXf := parseB_f2 a
  have hYf := parseB_f2 b
  have hXc := parseB_code a
  have hYc := parseB_code b
  have hgood := parseB_good a b
  have hbad := parseB_bad a b
  obtain ⟨X, hX⟩ : ∃ X, parseB a = X := ⟨_, rfl⟩
  obtain ⟨Y, hY⟩ : ∃ Y, parseB b = Y := ⟨_, rfl⟩
  obtain ⟨Z, hZ⟩ : ∃ Z, parseB (a ++ ⟨#[10]⟩ ++ b) = Z := ⟨_, rfl⟩
  rw [hX] at H1 hXl hXf hXc hgood hbad
  rw [hY] at H2 hYl hYf hYc hgood hbad
  rw [hZ] at H3 hgood hbad
  obtain ⟨l1, a1, e1⟩ := X
  obtain ⟨l2, a2, e2⟩ := Y
  simp only at H1 H2 hXl hYl hXf hYf hXc hYc hgood hbad
  clear hX hY hZ
  rcases hXc with rfl | rfl
  · rcases hYc with rfl | rfl
    · obtain rfl := hgood rfl rfl
      clear hgood hbad
      have HXF : Aside0 (∀ q ∈ l1 ++ l2, q.f2.length < 4611686018427387904) := ⟨fun q hq => by
        rcases List.mem_append.1 hq with h | h
        · have := hXf q h; omega
        · have := hYf q h; omega⟩
      clear hXf hYf
      have HZL : Aside0 ((l1 ++ l2).length = l1.length + l2.length) := ⟨List.length_append⟩
      obtain ⟨l3, hl3⟩ : ∃ l3, l1 ++ l2 = l3 := ⟨_, rfl⟩
      have HL3 := Aside0.mk hl3
      rw [hl3] at HXF HZL H3
      clear hl3
      go_enter Tryd.func4, Tryd.ntmps4
      go_wp2_with fail
      refine (H1.out _ HM.out).mono ?_
      rintro q1 w1 ⟨v1, rfl, ho1, hb1⟩
      have HB1 := Aside0.mk hb1
      have HV1 := Aside0.mk ho1
      clear ho1 hb1
      obtain ⟨i1, hi1⟩ := Kd.R_own HV1.out
      have HI1 := Aside0.mk hi1
      clear hi1
      go_wp2_with fail
      refine (H2.out _ (HM.out.below HB1.out)).mono ?_
      rintro q2 w2 ⟨v2, rfl, ho2, hb2⟩
      have HB2 : Aside0 (Below w.heap.size w w2) := ⟨below_to HB1.out hb2⟩
      have HV2 : Aside0 (kRc.R 48 w2 w.heap.size (fun k => True ∧ some k ≠ v1.ownBlock) v2 l2) := ⟨Kd.R_lower (Kd.R_new ho2 HI1.out) HB1.out.size⟩
      have HV1b := Aside0.mk (Kd.R_below HV1.out hb2)
      clear ho2 hb2 HV1
      obtain ⟨i2, hi2⟩ := Kd.R_own HV1b.out
      have HI2 := Aside0.mk hi2
      clear hi2 HI1
      go_wp2_with fail
      refine (H3.out _ (HM.out.below HB2.out)).mono ?_
      rintro q3 w3 ⟨v3, rfl, ho3, hb3⟩
      have HB3 : Aside0 (Below w.heap.size w w3) := ⟨below_to HB2.out hb3⟩
      have HV3 := Aside0.mk (Kd.R_lower (Kd.R_new ho3 HI2.out) HB2.out.size)
      have HV1c := Aside0.mk (Kd.R_below HV1b.out hb3)
      have HV2c := Aside0.mk (Kd.R_below HV2.out hb3)
      clear ho3 hb3 HV1b HV2 HI2 H1 H2 H3
      obtain ⟨A2, c2, rfl, hrd⟩ := reads_own HV2c.out
      have HRD := Aside0.mk hrd
      clear hrd
      go_wp2_with (at_builtin; refine wpList_wanted rfl ?_; refine Kd.R_append_rows_step kRc (w0 := w) w.heap.size rfl (.tmp 59) (.tmp 60) 26 48 (.agg #[(.int .i64 0), (.int .i64 0), (.slice none 0 0)]) 40 rfl Tryd.underlying26 Go.Proofs.YtooehjbbphokbaaDoor.PLinesRead.info48 rfl (by decide) (by omega) v1 l1 l2 A2 l2.length c2 (fun _ => True) _ rfl rfl HV1c.out HRD.out (fun _ _ h => h) (fun _ h => h.1) (fun _ _ => trivial) HB3.out HB3.out.size ?aL ?_)
      case aL => rw [← HZL.out]; have := HZL.out; omega
      intro v4 w4 ho4 hb4 hg4 _
      have HV4 : Aside0 (RdS kRc w4 v4 l3) := ⟨RdS.of_R (by rw [HL3.out] at ho4; exact ho4)⟩
      have HV3d : Aside0 (RdS kRc w4 v3 l3) := ⟨RdS.of_R (Kd.R_grown HV3.out hg4 (fun k hk => hk.2))⟩
      have HB4 := Aside0.mk hb4
      clear ho4 hb4 hg4 HV1c HV2c HV3 HRD
      go_wp2_with fail
      refine (sameRec_any l3 _ v3 v4 HV3d.out HV4.out (by have := HZL.out; omega) HXF.out).mono ?_
      rintro q5 w5 ⟨rfl, hb5⟩
      have HB5 : Aside0 (Below w.heap.size w w5) := ⟨below_to HB4.out hb5⟩
      clear hb5 HV3d HV4
      go_wp2_with fail
      refine (awake_any m _ (HM.out.below HB5.out)).mono ?_
      rintro q7 w7 ⟨rfl, hb7⟩
      have HB7 : Aside0 (Below w.heap.size w w7) := ⟨below_to HB5.out hb7⟩
      clear hb7
      go_wp2
      go_ret
      exact ⟨rfl, HB7.out⟩

    · obtain ⟨at_, hat, rfl⟩ := hbad (.inr (by decide))
      clear hgood hbad hXf hYf
      go_enter Tryd.func4, Tryd.ntmps4
      go_wp2_with fail
      refine (H1.out _ HM.out).mono ?_
      rintro q1 w1 ⟨v1, rfl, ho1, hb1⟩
      have HB1 := Aside0.mk hb1
      have HV1 := Aside0.mk ho1
      clear ho1 hb1
      obtain ⟨i1, hi1⟩ := Kd.R_own HV1.out
      have HI1 := Aside0.mk hi1
      clear hi1
      go_wp2_with fail
      refine (H2.out _ (HM.out.below HB1.out)).mono ?_
      rintro q2 w2 ⟨v2, rfl, ho2, hb2⟩
      have HB2 : Aside0 (Below w.heap.size w w2) := ⟨below_to HB1.out hb2⟩
      have HV2 : Aside0 (kRc.R 48 w2 w.heap.size (fun k => True ∧ some k ≠ v1.ownBlock) v2 l2) := ⟨Kd.R_lower (Kd.R_new ho2 HI1.out) HB1.out.size⟩
      have HV1b := Aside0.mk (Kd.R_below HV1.out hb2)
      clear ho2 hb2 HV1
      obtain ⟨i2, hi2⟩ := Kd.R_own HV1b.out
      have HI2 := Aside0.mk hi2
      clear hi2 HI1
      go_wp2_with fail
      refine (H3.out _ (HM.out.below HB2.out)).mono ?_
      rintro q3 w3 ⟨v3, rfl, ho3, hb3⟩
      have HB3 : Aside0 (Below w.heap.size w w3) := ⟨below_to HB2.out hb3⟩
      have HV3 := Aside0.mk (Kd.R_lower (Kd.R_new ho3 HI2.out) HB2.out.size)
      have HV1c := Aside0.mk (Kd.R_below HV1b.out hb3)
      have HV2c := Aside0.mk (Kd.R_below HV2.out hb3)
      clear ho3 hb3 HV1b HV2 HI2 H1 H2 H3
      obtain ⟨A3, c3, rfl, -, -⟩ := Kd.R_reads HV3.out
      clear HV1c HV2c HV3
      go_wp2_with fail
      refine (awake_any m _ (HM.out.below HB3.out)).mono ?_
      rintro q7 w7 ⟨rfl, hb7⟩
      have HB7 : Aside0 (Below w.heap.size w w7) := ⟨below_to HB3.out hb7⟩
      clear hb7
      go_wp2
      go_ret
      exact ⟨rfl, HB7.out⟩
  · obtain ⟨at_, hat, rfl⟩ := hbad (.inl (by decide))
    clear hgood hbad hXf hYf
    rcases hYc with rfl | rfl
    · skip
      go_enter Tryd.func4, Tryd.ntmps4
      go_wp2_with fail
      refine (H1.out _ HM.out).mono ?_
      rintro q1 w1 ⟨v1, rfl, ho1, hb1⟩
      have HB1 := Aside0.mk hb1
      have HV1 := Aside0.mk ho1
      clear ho1 hb1
      obtain ⟨i1, hi1⟩ := Kd.R_own HV1.out
      have HI1 := Aside0.mk hi1
      clear hi1
      go_wp2_with fail
      refine (H2.out _ (HM.out.below HB1.out)).mono ?_
      rintro q2 w2 ⟨v2, rfl, ho2, hb2⟩
      have HB2 : Aside0 (Below w.heap.size w w2) := ⟨below_to HB1.out hb2⟩
      have HV2 : Aside0 (kRc.R 48 w2 w.heap.size (fun k => True ∧ some k ≠ v1.ownBlock) v2 l2) := ⟨Kd.R_lower (Kd.R_new ho2 HI1.out) HB1.out.size⟩
      have HV1b := Aside0.mk (Kd.R_below HV1.out hb2)
      clear ho2 hb2 HV1
      obtain ⟨i2, hi2⟩ := Kd.R_own HV1b.out
      have HI2 := Aside0.mk hi2
      clear hi2 HI1
      go_wp2_with fail
      refine (H3.out _ (HM.out.below HB2.out)).mono ?_
      rintro q3 w3 ⟨v3, rfl, ho3, hb3⟩
      have HB3 : Aside0 (Below w.heap.size w w3) := ⟨below_to HB2.out hb3⟩
      have HV3 := Aside0.mk (Kd.R_lower (Kd.R_new ho3 HI2.out) HB2.out.size)
      have HV1c := Aside0.mk (Kd.R_below HV1b.out hb3)
      have HV2c := Aside0.mk (Kd.R_below HV2.out hb3)
      clear ho3 hb3 HV1b HV2 HI2 H1 H2 H3
      obtain ⟨A3, c3, rfl, -, -⟩ := Kd.R_reads HV3.out
      clear HV1c HV2c HV3
      go_wp2_with fail
      refine (awake_any m _ (HM.out.below HB3.out)).mono ?_
      rintro q7 w7 ⟨rfl, hb7⟩
      have HB7 : Aside0 (Below w.heap.size w w7) := ⟨below_to HB3.out hb7⟩
      clear hb7
      go_wp2
      go_ret
      exact ⟨rfl, HB7.out⟩
    · skip
      go_enter Tryd.func4, Tryd.ntmps4
      go_wp2_with fail
      refine (H1.out _ HM.out).mono ?_
      rintro q1 w1 ⟨v1, rfl, ho1, hb1⟩
      have HB1 := Aside0.mk hb1
      have HV1 := Aside0.mk ho1
      clear ho1 hb1
      obtain ⟨i1, hi1⟩ := Kd.R_own HV1.out
      have HI1 := Aside0.mk hi1
      clear hi1
      go_wp2_with fail
      refine (H2.out _ (HM.out.below HB1.out)).mono ?_
      rintro q2 w2 ⟨v2, rfl, ho2, hb2⟩
      have HB2 : Aside0 (Below w.heap.size w w2) := ⟨below_to HB1.out hb2⟩
      have HV2 : Aside0 (kRc.R 48 w2 w.heap.size (fun k => True ∧ some k ≠ v1.ownBlock) v2 l2) := ⟨Kd.R_lower (Kd.R_new ho2 HI1.out) HB1.out.size⟩
      have HV1b := Aside0.mk (Kd.R_below HV1.out hb2)
      clear ho2 hb2 HV1
      obtain ⟨i2, hi2⟩ := Kd.R_own HV1b.out
      have HI2 := Aside0.mk hi2
      clear hi2 HI1
      go_wp2_with fail
      refine (H3.out _ (HM.out.below HB2.out)).mono ?_
      rintro q3 w3 ⟨v3, rfl, ho3, hb3⟩
      have HB3 : Aside0 (Below w.heap.size w w3) := ⟨below_to HB2.out hb3⟩
      have HV3 := Aside0.mk (Kd.R_lower (Kd.R_new ho3 HI2.out) HB2.out.size)
      have HV1c := Aside0.mk (Kd.R_below HV1b.out hb3)
      have HV2c := Aside0.mk (Kd.R_below HV2.out hb3)
      clear ho3 hb3 HV1b HV2 HI2 H1 H2 H3
      obtain ⟨A3, c3, rfl, -, -⟩ := Kd.R_reads HV3.out
      clear HV1c HV2c HV3
      go_wp2_with fail
      refine (awake_any m _ (HM.out.below HB3.out)).mono ?_
      rintro q7 w7 ⟨rfl, hb7⟩
      have HB7 : Aside0 (Below w.heap.size w w7) := ⟨below_to HB3.out hb7⟩
      clear hb7
      go_wp2
      go_ret
      exact ⟨rfl, HB7.out⟩

end Go.Proofs.YtooehjbbphokbaaDoor
