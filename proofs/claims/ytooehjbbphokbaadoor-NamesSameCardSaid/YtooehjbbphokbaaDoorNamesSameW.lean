/- Walk of the law NamesSame. -/
import Derived.Test.YtooehjbbphokbaaDoorNmS
namespace Go.Proofs.YtooehjbbphokbaaDoor
set_option linter.unusedVariables false
set_option linter.unusedSimpArgs false
open Go.RowKit Go.Proofs.YtooehjbbphokbaaDoorW.PrintWords Go.Proofs.YtooehjbbphokbaaDoorW.PrintLast Go.Proofs.YtooehjbbphokbaaDoorW.PrintMore Go.Proofs.YtooehjbbphokbaaDoor.PLinesRead

theorem u64_nonneg (n : Int) : 0 ≤ IntKind.u64.wrap n := by
  simp [IntKind.wrap, IntKind.bits, IntKind.signed]
  omega
theorem rem_at (n : Int) (k : Nat) (hk : 0 < k) (hk2 : k < 4294967290) : ∃ j : Nat, j < k ∧ wrap64 ((IntKind.u64.wrap n).tmod (k : Int)) = (j : Int) := by
  have h0 := u64_nonneg n
  have h1 := Int.emod_nonneg (IntKind.u64.wrap n) (show (k : Int) ≠ 0 by omega)
  have h2 := Int.emod_lt_of_pos (IntKind.u64.wrap n) (show (0 : Int) < (k : Int) by omega)
  refine ⟨(IntKind.u64.wrap n % (k : Int)).toNat, by omega, ?_⟩
  rw [Int.tmod_eq_emod_of_nonneg h0, w64_in _ (by omega)]
  omega

set_option maxHeartbeats 4000000 in
set_option maxRecDepth 100000 in
theorem NamesSame_walk (w : World) (n : Int) (m : Int) (hm : MaxIs w m) :
    Calls Tryd.prog 13 #[.int .i64 n] w fun e w' => e = .returned (.bool true) ∧ Below w.heap.size w w' := by
  obtain ⟨b, hal, hsame⟩ := alias_same
  have HA := Aside0.mk (fun W hm => awake5_any b hal m W hm)
  have HRES := Aside0.mk (fun s (hs : s.size < 10000) W hm => resolve_all b hal s m W hm (by omega))
  have HRK := Aside0.mk (fun f (hf : f ∈ rowsB b) => row_ok hal.2.2.1 hf)
  have HRW := Aside0.mk (fun W => refRows_any b W hal.2.1)
  have HAL := Aside0.mk hal.1
  have HM := Aside0.mk hm
  have HRL := rowsB_len b
  have hbs := hal.2.1
  obtain ⟨R, hR⟩ : ∃ R, rowsB b = R := ⟨_, rfl⟩
  rw [hR] at HRES HRK HRW HRL hsame
  unfold sameOk at hsame
  rw [Bool.and_eq_true, List.all_eq_true] at hsame
  obtain ⟨hsa, hne⟩ := hsame
  have hpos : 0 < R.length := by
    cases R with
    | nil => cases hne
    | cons _ _ => simp
  have HSA := Aside0.mk hsa
  have hrl : R.length < 4294967290 := by omega
  clear hal hm hR HRL hsa hne hbs
  go_enter Tryd.func13, Tryd.ntmps13
  go_wp2_with fail
  refine (HAL.out _).mono ?_
  rintro e w2 ⟨rfl, hb2⟩
  have HB2 : Aside0 (Below w.heap.size w w2) := ⟨hb2⟩
  clear hb2
  go_wp2_with fail
  refine (HRW.out _).mono ?_
  rintro e w3 ⟨v3, rfl, ho3, hb3⟩
  have HB3 : Aside0 (Below w.heap.size w w3) := ⟨below_to HB2.out hb3⟩
  obtain ⟨A, c, rfl, hc, hr⟩ := ho3
  have HR := Aside0.mk hr
  clear hb3 hr
  obtain ⟨j, hj, hje⟩ := rem_at n R.length hpos hrl
  obtain ⟨ad, A0, c0, rfl, hx0, hxl, hxr⟩ := at_L2 HR.out (j : Int) (by omega) (by omega)
  have hfR : rd_L2 R (j : Int) = R[j] := by simp [rd_L2, hj]
  have hok := HRK.out R[j] (List.getElem_mem hj)
  have hsr := HSA.out R[j] (List.getElem_mem hj)
  rw [hfR] at hx0 hxl hxr
  obtain ⟨f, hff⟩ : ∃ f, R[j] = f := ⟨_, rfl⟩
  rw [hff] at hx0 hxl hxr hok hsr
  clear hfR hff
  obtain ⟨hf3, hfs, -⟩ := hok
  simp only [Int.toNat_natCast] at hx0
  obtain ⟨ad0, rfl, hy0⟩ := at_S hxr 0 (by omega)
  obtain ⟨ad0', he1, hy1⟩ := at_S hxr 1 (by omega)
  cases he1
  obtain ⟨ad0', he2, hy2⟩ := at_S hxr 2 (by omega)
  cases he2
  rw [add_zero] at hy0
  have ha1 := add_field ad0 0 1 (by omega)
  have ha2 := add_field ad0 0 2 (by omega)
  rw [Nat.zero_add, add_zero] at ha1 ha2
  rw [ha1] at hy1
  rw [ha2] at hy2
  clear ha1 ha2 hxr
  have hc0e := cell_at (show 0 < f.length by omega)
  have hc1e := cell_at (show 1 < f.length by omega)
  have hc2e := cell_at (show 2 < f.length by omega)
  have hs2 := hfs _ (List.getElem_mem (show 2 < f.length by omega))
  obtain ⟨x0, hxx0⟩ : ∃ x0, f[0]'(by omega) = x0 := ⟨_, rfl⟩
  obtain ⟨x1, hxx1⟩ : ∃ x1, f[1]'(by omega) = x1 := ⟨_, rfl⟩
  obtain ⟨x2, hxx2⟩ : ∃ x2, f[2]'(by omega) = x2 := ⟨_, rfl⟩
  rw [hxx0] at hy0 hc0e
  rw [hxx1] at hy1 hc1e
  rw [hxx2] at hy2 hc2e hs2
  unfold sameRow asciiRow nameA nameB aheadN at hsr
  rw [hc0e, hc1e, hc2e] at hsr
  simp only [Bool.and_eq_true, Bool.or_eq_true, decide_eq_true_eq, beq_iff_eq] at hsr
  obtain ⟨hsame, ⟨⟨⟨hasc, hcnt⟩, hszA⟩, hszB⟩, hszS⟩ := hsr
  clear hxx0 hxx1 hxx2 hc0e hc1e hc2e hfs
  by_cases hpr : x0 = ⟨#[112, 114]⟩
  · subst hpr
    go_wp2_with fail
    refine (HA.out _ (HM.out.below HB3.out)).mono ?_
    rintro e w4 ⟨rfl, hb4⟩
    have HB4 : Aside0 (Below w.heap.size w w4) := ⟨below_to HB3.out hb4⟩
    clear hb4
    go_wp2
    go_ret
    exact ⟨rfl, HB4.out⟩
  · have hbl : ¬ x0.toList = [112, 114] := fun e => by rw [Lib.toList_data] at e; exact hpr (by rw [← bsL_data x0, e]; rfl)
    have hb1 : (x0.toList == [112, 114]) = false := beq_eq_false_iff_ne.2 hbl
    have hst := stroke_any x2 m
    obtain ⟨y, hy⟩ : ∃ y, strokeB x2 = y := ⟨_, rfl⟩
    rw [hy] at hst hasc hszS hsame hszB
    have hgr := great_any y
    obtain ⟨z, hz⟩ : ∃ z, greatB y = z := ⟨_, rfl⟩
    rw [hz] at hgr hsame hszB
    have HST := Aside0.mk (fun W hm => hst W hm hs2 hcnt)
    have HGR := Aside0.mk (fun W => hgr W hszS hasc)
    have hsm := hsame.resolve_left (fun h => by rw [eqB_ne hpr] at h; cases h)
    obtain ⟨⟨⟨⟨e1, e2⟩, e3⟩, e4⟩, e5⟩ := hsm
    have e2' := eqB_iff.1 e2
    have e3' := eqB_iff.1 e3
    clear hst hgr hy hz hsame e2 e3 hasc hcnt hszS
    by_cases hbi : x0 = ⟨#[98, 105]⟩
    · subst hbi
      rw [if_pos (eqB_self _)] at e1 e2' e3' e4 e5 hszA hszB
      have k1 : (⟨#[]⟩ : ByteArray).size + x1.size ≤ 9223372036854775807 := by
        have := hszA
        rw [ByteArray.size_append] at this
        omega
      have k2 : (⟨#[]⟩ ++ ⟨#[32, 105, 115, 95]⟩ : ByteArray).size + z.size ≤ 9223372036854775807 := by
        have := hszB
        rw [ByteArray.size_append] at this
        omega
      have k3 : (⟨#[]⟩ : ByteArray).size + (⟨#[32, 105, 115, 95]⟩ : ByteArray).size ≤ 9223372036854775807 := by decide
      have HR1 := Aside0.mk (fun W hm => HRES.out (⟨#[]⟩ ++ x1) hszA W hm)
      have HR2 := Aside0.mk (fun W hm => HRES.out (⟨#[]⟩ ++ ⟨#[32, 105, 115, 95]⟩ ++ z) hszB W hm)
      rw [e2', e4] at HR1
      rw [← e1, e3', e5] at HR2
      obtain ⟨q, hq⟩ : ∃ q, (resolveL R (⟨#[]⟩ ++ x1)).1 = q := ⟨_, rfl⟩
      rw [hq] at HR1 HR2
      clear e1 e2' e3' e4 e5 hszA hszB hq
      go_wp2_with fail
      refine (HR1.out _ (HM.out.below HB3.out)).mono ?_
      rintro e w4 ⟨rfl, hb4⟩
      have HB4 : Aside0 (Below w.heap.size w w4) := ⟨below_to HB3.out hb4⟩
      replace hy1 := pw_cell_below hb4 hy1
      replace hy2 := pw_cell_below hb4 hy2
      clear hb4
      go_wp2_with fail
      refine (HST.out _ (HM.out.below HB4.out)).mono ?_
      rintro e w5 ⟨rfl, hb5⟩
      have HB5 : Aside0 (Below w.heap.size w w5) := ⟨below_to HB4.out hb5⟩
      replace hy1 := pw_cell_below hb5 hy1
      replace hy2 := pw_cell_below hb5 hy2
      clear hb5
      go_wp2_with fail
      refine (HGR.out _).mono ?_
      rintro e w6 ⟨rfl, hb6⟩
      have HB6 : Aside0 (Below w.heap.size w w6) := ⟨below_to HB5.out hb6⟩
      replace hy1 := pw_cell_below hb6 hy1
      replace hy2 := pw_cell_below hb6 hy2
      clear hb6
      go_wp2_with fail
      refine (HR2.out _ (HM.out.below HB6.out)).mono ?_
      rintro e w7 ⟨rfl, hb7⟩
      have HB7 : Aside0 (Below w.heap.size w w7) := ⟨below_to HB6.out hb7⟩
      replace hy1 := pw_cell_below hb7 hy1
      clear hb7
      go_wp2
      go_ret
      exact ⟨rfl, HB7.out⟩
    · have hbl2 : ¬ x0.toList = [98, 105] := fun e => by rw [Lib.toList_data] at e; exact hbi (by rw [← bsL_data x0, e]; rfl)
      have hb2 : (x0.toList == [98, 105]) = false := beq_eq_false_iff_ne.2 hbl2
      rw [if_neg (by rw [eqB_ne hbi]; decide)] at e1 e2' e3' e4 e5 hszA hszB
      have k1 : (x0 ++ ⟨#[32, 61, 32]⟩ : ByteArray).size + x1.size ≤ 9223372036854775807 := by
        have := hszA
        rw [ByteArray.size_append] at this
        omega
      have k0 : x0.size + (⟨#[32, 61, 32]⟩ : ByteArray).size ≤ 9223372036854775807 := by
        have := hszA
        rw [ByteArray.size_append, ByteArray.size_append] at this
        omega
      have k2 : (x0 ++ ⟨#[32, 61, 32]⟩ ++ ⟨#[32, 105, 115, 95]⟩ : ByteArray).size + z.size ≤ 9223372036854775807 := by
        have := hszB
        rw [ByteArray.size_append] at this
        omega
      have k3 : (x0 ++ ⟨#[32, 61, 32]⟩ : ByteArray).size + (⟨#[32, 105, 115, 95]⟩ : ByteArray).size ≤ 9223372036854775807 := by
        have := hszB
        rw [ByteArray.size_append, ByteArray.size_append] at this
        omega
      have HR1 := Aside0.mk (fun W hm => HRES.out (x0 ++ ⟨#[32, 61, 32]⟩ ++ x1) hszA W hm)
      have HR2 := Aside0.mk (fun W hm => HRES.out (x0 ++ ⟨#[32, 61, 32]⟩ ++ ⟨#[32, 105, 115, 95]⟩ ++ z) hszB W hm)
      rw [e2', e4] at HR1
      rw [← e1, e3', e5] at HR2
      obtain ⟨q, hq⟩ : ∃ q, (resolveL R (x0 ++ ⟨#[32, 61, 32]⟩ ++ x1)).1 = q := ⟨_, rfl⟩
      rw [hq] at HR1 HR2
      clear e1 e2' e3' e4 e5 hszA hszB hq
      go_wp2_with fail
      refine (HR1.out _ (HM.out.below HB3.out)).mono ?_
      rintro e w4 ⟨rfl, hb4⟩
      have HB4 : Aside0 (Below w.heap.size w w4) := ⟨below_to HB3.out hb4⟩
      replace hy1 := pw_cell_below hb4 hy1
      replace hy2 := pw_cell_below hb4 hy2
      clear hb4
      go_wp2_with fail
      refine (HST.out _ (HM.out.below HB4.out)).mono ?_
      rintro e w5 ⟨rfl, hb5⟩
      have HB5 : Aside0 (Below w.heap.size w w5) := ⟨below_to HB4.out hb5⟩
      replace hy1 := pw_cell_below hb5 hy1
      replace hy2 := pw_cell_below hb5 hy2
      clear hb5
      go_wp2_with fail
      refine (HGR.out _).mono ?_
      rintro e w6 ⟨rfl, hb6⟩
      have HB6 : Aside0 (Below w.heap.size w w6) := ⟨below_to HB5.out hb6⟩
      replace hy1 := pw_cell_below hb6 hy1
      replace hy2 := pw_cell_below hb6 hy2
      clear hb6
      go_wp2_with fail
      refine (HR2.out _ (HM.out.below HB6.out)).mono ?_
      rintro e w7 ⟨rfl, hb7⟩
      have HB7 : Aside0 (Below w.heap.size w w7) := ⟨below_to HB6.out hb7⟩
      replace hy1 := pw_cell_below hb7 hy1
      clear hb7
      go_wp2
      go_ret
      exact ⟨rfl, HB7.out⟩

end Go.Proofs.YtooehjbbphokbaaDoor
