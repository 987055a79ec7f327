/- Walks: names.Long, and the reference's. -/
import Derived.Test.YtooehjbbphokbaaDoorNmE
import Derived.Test.YtooehjbbphokbaaDoorLnW
namespace Go.Proofs.YtooehjbbphokbaaDoor
set_option linter.unusedVariables false
set_option linter.unusedSimpArgs false
open Go.RowKit Go.Proofs.YtooehjbbphokbaaDoorW.PrintWords Go.Proofs.YtooehjbbphokbaaDoorW.PrintLast Go.Proofs.YtooehjbbphokbaaDoorW.PrintMore Go.Proofs.YtooehjbbphokbaaDoor.PLinesRead

theorem bne_toList {a b : ByteArray} (h : a ≠ b) : (a.toList != b.toList) = true := by
  unfold bne
  rw [beq_toList h]
  rfl
theorem rows_rd (b : ByteArray) (m : Int) (W : World) (hbs : b.size < 4294967281) (hm : MaxIs W m) :
    Calls Tryd.prog 21 #[.string b] W fun e w' => ∃ v, e = .returned v ∧ RdS kSl w' v (rowsB b) ∧ Below W.heap.size W w' := by
  refine (rows_any b m W hbs hm).mono ?_
  rintro e w' ⟨v, rfl, h, hb⟩
  exact ⟨v, rfl, RdS.of_R h, hb⟩
theorem refNumber_any (k : ByteArray) (w : World) : Calls Tryd.prog 51 #[.string k] w fun e w' => e = .returned (.int .i64 (numB k)) ∧ Below w.heap.size w w' := by
  refine (Go.Proofs.YtooehjbbphokbaaDoor.PNamesBack.rubricatorref05_number.calls k (numB k) w ?_).mono ?_
  · unfold Go.Proofs.YtooehjbbphokbaaDoor.PNamesBack.rubricatorref05_number.f numB
    split
    · rfl
    · split <;> rfl
  · rintro e w' ⟨rfl, hd⟩
    exact ⟨rfl, hd.below⟩

set_option maxHeartbeats 4000000 in
set_option maxRecDepth 100000 in
theorem long_any (b : ByteArray) (hal : AliasIs b) (kind : Int) (v : ByteArray) (m : Int) (w : World) (hm : MaxIs w m) :
    Calls Tryd.prog 30 #[.int .i64 kind, .string v] w fun e w' => e = .returned (.tuple #[.string ((longL kind v (rowsB b)).getD ByteArray.empty), .bool (longL kind v (rowsB b)).isSome]) ∧ Below w.heap.size w w' := by
  obtain ⟨ha, hbs, hok, -, -⟩ := hal
  have HRK := Aside0.mk (fun f (hf : f ∈ rowsB b) => row_ok hok hf)
  have HRW := Aside0.mk (fun W (hm : MaxIs W m) => rows_rd b m W hbs hm)
  have HRL := rowsB_len b
  obtain ⟨R, hR⟩ : ∃ R, rowsB b = R := ⟨_, rfl⟩
  rw [hR] at HRK HRW HRL ⊢
  have HE : Aside0 (longL kind v (R.drop 0) = longL kind v R) := ⟨rfl⟩
  obtain ⟨ans, hans⟩ : ∃ ans, longL kind v R = ans := ⟨_, rfl⟩
  rw [hans] at HE ⊢
  have HM := Aside0.mk hm
  have HAL := Aside0.mk ha
  have hrl : R.length < 4294967290 := by omega
  clear ha hbs hok hR HRL hans hm
  go_enter Tryd.func30, Tryd.ntmps30
  go_wp2_with fail
  refine (HAL.out _).mono ?_
  rintro e w2 ⟨rfl, hb2⟩
  have HB2 : Aside0 (Below w.heap.size w w2) := ⟨hb2⟩
  clear hb2
  go_wp2_with fail
  refine (HRW.out _ (HM.out.below HB2.out)).mono ?_
  rintro e w3 ⟨v3, rfl, ho3, hb3⟩
  have HB3 : Aside0 (Below w.heap.size w w3) := ⟨below_to HB2.out hb3⟩
  obtain ⟨A, c, rfl, hc, hr⟩ := ho3
  have HR := Aside0.mk hr
  clear hb3 hr
  go_wp2
  go_loopg [11] R.length (fun gk i w' => ∃ (k : Nat), i = .int .i64 (k : Int) ∧ Aside0 (k ≤ R.length ∧ gk = R.length - k) ∧ Aside0 (longL kind v (R.drop k) = ans) ∧ Aside0 (Below w3.heap.size w3 w'))
  case atStart => exact ⟨0, by first | rfl | simp, ⟨Nat.zero_le _, rfl⟩, HE, ⟨Below.refl _ _⟩⟩
  case round =>
    obtain ⟨k, rfl, HA, HF, HB⟩ := hrel
    have HBW : Aside0 (Below w.heap.size w wr) := ⟨below_to HB3.out HB.out⟩
    by_cases hk : k < R.length
    · obtain ⟨ad, A0, c0, rfl, hx0, hxl, hxr⟩ := at_L2 HR.out (k : Int) (by omega) (by omega)
      replace hx0 := pw_cell_below HB.out hx0
      replace hxr := Kd.C_below hxr HB.out
      have hfR : rd_L2 R (k : Int) = R[k] := by simp [rd_L2, hk]
      have hok := HRK.out R[k] (List.getElem_mem hk)
      have hdr : R.drop k = R[k] :: R.drop (k + 1) := List.drop_eq_getElem_cons hk
      rw [hfR] at hx0 hxl hxr
      rw [hdr] at HF
      obtain ⟨f, hff⟩ : ∃ f, R[k] = f := ⟨_, rfl⟩
      rw [hff] at hx0 hxl hxr hok HF
      clear hfR hff hdr
      obtain ⟨hf3, -, -⟩ := hok
      simp only [Int.toNat_natCast] at hx0
      obtain ⟨ad0, rfl, hy0⟩ := at_S hxr 0 (by omega)
      obtain ⟨ad0', he1, hy1⟩ := at_S hxr 1 (by omega)
      cases he1
      obtain ⟨ad0', he2, hy2⟩ := at_S hxr 2 (by omega)
      cases he2
      rw [add_zero] at hy0
      have ha1 := add_field ad0 0 1 (by omega)
      have ha2 := add_field ad0 0 2 (by omega)
      rw [Nat.zero_add, add_zero] at ha1 ha2
      rw [ha1] at hy1
      rw [ha2] at hy2
      clear ha1 ha2 hxr
      have hc0e := cell_at (show 0 < f.length by omega)
      have hc1e := cell_at (show 1 < f.length by omega)
      have hc2e := cell_at (show 2 < f.length by omega)
      obtain ⟨x0, hxx0⟩ : ∃ x0, f[0]'(by omega) = x0 := ⟨_, rfl⟩
      obtain ⟨x1, hxx1⟩ : ∃ x1, f[1]'(by omega) = x1 := ⟨_, rfl⟩
      obtain ⟨x2, hxx2⟩ : ∃ x2, f[2]'(by omega) = x2 := ⟨_, rfl⟩
      rw [hxx0] at hy0 hc0e
      rw [hxx1] at hy1 hc1e
      rw [hxx2] at hy2 hc2e
      have HH : Aside0 (longHit kind v f = (!eqB x0 ⟨#[112, 114]⟩ && decide (numB x0 = kind) && eqB x1 v)) := ⟨by unfold longHit; rw [hc0e, hc1e]⟩
      have HNX : Aside0 (longHit kind v f = false → longL kind v (R.drop (k + 1)) = ans) := ⟨fun h => by rw [← HF.out, longL, if_neg (by rw [h]; decide)]⟩
      have HYS : Aside0 (longHit kind v f = true → ans = some x2) := ⟨fun h => by rw [← HF.out, longL, if_pos h, hc2e]⟩
      clear hxx0 hxx1 hxx2 hc0e hc1e hc2e HF
      by_cases hpr : x0 = ⟨#[112, 114]⟩
      · subst hpr
        have HAN := Aside0.mk (HNX.out (by rw [HH.out, eqB_self]; rfl))
        clear HNX HYS HH
        go_wp2
        go_roundg (R.length - k - 1)
        case measure => have := HA.out; omega
        case rel => exact ⟨k + 1, by go_num, ⟨by omega, by omega⟩, HAN, HB⟩
      · have hbq := beq_toList hpr
        have hbl : ¬ x0.toList = [112, 114] := fun e => by rw [Lib.toList_data] at e; exact hpr (by rw [← bsL_data x0, e]; rfl)
        have hb1 : (x0.toList == [112, 114]) = false := beq_eq_false_iff_ne.2 hbl
        have HH2 : Aside0 (longHit kind v f = (decide (numB x0 = kind) && eqB x1 v)) := ⟨by rw [HH.out, eqB_ne hpr]; rfl⟩
        have HNUM := Aside0.mk (fun W => number_any x0 W)
        obtain ⟨n0, hn0⟩ : ∃ n0, numB x0 = n0 := ⟨_, rfl⟩
        rw [hn0] at HNUM HH2
        clear hn0 HH
        go_wp2_with fail
        refine (HNUM.out _).mono ?_
        rintro e w5 ⟨rfl, hb5⟩
        have HB5 : Aside0 (Below w3.heap.size w3 w5) := ⟨below_to HB.out hb5⟩
        replace hy0 := pw_cell_below hb5 hy0
        replace hy1 := pw_cell_below hb5 hy1
        replace hy2 := pw_cell_below hb5 hy2
        clear hb5
        by_cases hk2 : n0 = kind
        · subst hk2
          by_cases hv : x1 = v
          · subst hv
            have HAN := Aside0.mk (HYS.out (by rw [HH2.out, eqB_self]; simp))
            have HBZ : Aside0 (Below w.heap.size w w5) := ⟨below_to HB3.out HB5.out⟩
            clear HNX HYS
            go_wp2
            go_ret2
            rw [HAN.out]
            exact ⟨rfl, HBZ.out⟩
          · have hbv := beq_toList hv
            have HAN := Aside0.mk (HNX.out (by rw [HH2.out, eqB_ne hv]; simp))
            clear HNX HYS
            go_wp2
            go_roundg (R.length - k - 1)
            case measure => have := HA.out; omega
            case rel => exact ⟨k + 1, by go_num, ⟨by omega, by omega⟩, HAN, HB5⟩
        · have hk3 : (n0 == kind) = false := beq_eq_false_iff_ne.2 hk2
          have HAN := Aside0.mk (HNX.out (by rw [HH2.out]; simp [hk2]))
          clear HNX HYS
          go_wp2
          go_roundg (R.length - k - 1)
          case measure => have := HA.out; omega
          case rel => exact ⟨k + 1, by go_num, ⟨by omega, by omega⟩, HAN, HB5⟩
    · have HAN : Aside0 (ans = none) := ⟨by rw [← HF.out, List.drop_of_length_le (by omega)]; rfl⟩
      go_wp2
      go_ret2
      rw [HAN.out]
      exact ⟨rfl, HBW.out⟩

set_option maxHeartbeats 4000000 in
set_option maxRecDepth 100000 in
theorem refLong_any (b : ByteArray) (hal : AliasIs b) (kind : Int) (v : ByteArray) (m : Int) (w : World) (hm : MaxIs w m) :
    Calls Tryd.prog 31 #[.int .i64 kind, .string v] w fun e w' => e = .returned (.tuple #[.string ((longL kind v (rowsB b)).getD ByteArray.empty), .bool (longL kind v (rowsB b)).isSome]) ∧ Below w.heap.size w w' := by
  obtain ⟨ha, hbs, hok, -, -⟩ := hal
  have HRK := Aside0.mk (fun f (hf : f ∈ rowsB b) => row_ok hok hf)
  have HRW := Aside0.mk (fun W (hm : MaxIs W m) => refRows_any b W hbs)
  have HRL := rowsB_len b
  obtain ⟨R, hR⟩ : ∃ R, rowsB b = R := ⟨_, rfl⟩
  rw [hR] at HRK HRW HRL ⊢
  have HE : Aside0 (longL kind v (R.drop 0) = longL kind v R) := ⟨rfl⟩
  obtain ⟨ans, hans⟩ : ∃ ans, longL kind v R = ans := ⟨_, rfl⟩
  rw [hans] at HE ⊢
  have HM := Aside0.mk hm
  have HAL := Aside0.mk ha
  have hrl : R.length < 4294967290 := by omega
  clear ha hbs hok hR HRL hans hm
  go_enter Tryd.func31, Tryd.ntmps31
  go_wp2_with fail
  refine (HAL.out _).mono ?_
  rintro e w2 ⟨rfl, hb2⟩
  have HB2 : Aside0 (Below w.heap.size w w2) := ⟨hb2⟩
  clear hb2
  go_wp2_with fail
  refine (HRW.out _ (HM.out.below HB2.out)).mono ?_
  rintro e w3 ⟨v3, rfl, ho3, hb3⟩
  have HB3 : Aside0 (Below w.heap.size w w3) := ⟨below_to HB2.out hb3⟩
  obtain ⟨A, c, rfl, hc, hr⟩ := ho3
  have HR := Aside0.mk hr
  clear hb3 hr
  go_wp2
  go_loopg [11] R.length (fun gk i w' => ∃ (k : Nat), i = .int .i64 (k : Int) ∧ Aside0 (k ≤ R.length ∧ gk = R.length - k) ∧ Aside0 (longL kind v (R.drop k) = ans) ∧ Aside0 (Below w3.heap.size w3 w'))
  case atStart => exact ⟨0, by first | rfl | simp, ⟨Nat.zero_le _, rfl⟩, HE, ⟨Below.refl _ _⟩⟩
  case round =>
    obtain ⟨k, rfl, HA, HF, HB⟩ := hrel
    have HBW : Aside0 (Below w.heap.size w wr) := ⟨below_to HB3.out HB.out⟩
    by_cases hk : k < R.length
    · obtain ⟨ad, A0, c0, rfl, hx0, hxl, hxr⟩ := at_L2 HR.out (k : Int) (by omega) (by omega)
      replace hx0 := pw_cell_below HB.out hx0
      replace hxr := Kd.C_below hxr HB.out
      have hfR : rd_L2 R (k : Int) = R[k] := by simp [rd_L2, hk]
      have hok := HRK.out R[k] (List.getElem_mem hk)
      have hdr : R.drop k = R[k] :: R.drop (k + 1) := List.drop_eq_getElem_cons hk
      rw [hfR] at hx0 hxl hxr
      rw [hdr] at HF
      obtain ⟨f, hff⟩ : ∃ f, R[k] = f := ⟨_, rfl⟩
      rw [hff] at hx0 hxl hxr hok HF
      clear hfR hff hdr
      obtain ⟨hf3, -, -⟩ := hok
      simp only [Int.toNat_natCast] at hx0
      obtain ⟨ad0, rfl, hy0⟩ := at_S hxr 0 (by omega)
      obtain ⟨ad0', he1, hy1⟩ := at_S hxr 1 (by omega)
      cases he1
      obtain ⟨ad0', he2, hy2⟩ := at_S hxr 2 (by omega)
      cases he2
      rw [add_zero] at hy0
      have ha1 := add_field ad0 0 1 (by omega)
      have ha2 := add_field ad0 0 2 (by omega)
      rw [Nat.zero_add, add_zero] at ha1 ha2
      rw [ha1] at hy1
      rw [ha2] at hy2
      clear ha1 ha2 hxr
      have hc0e := cell_at (show 0 < f.length by omega)
      have hc1e := cell_at (show 1 < f.length by omega)
      have hc2e := cell_at (show 2 < f.length by omega)
      obtain ⟨x0, hxx0⟩ : ∃ x0, f[0]'(by omega) = x0 := ⟨_, rfl⟩
      obtain ⟨x1, hxx1⟩ : ∃ x1, f[1]'(by omega) = x1 := ⟨_, rfl⟩
      obtain ⟨x2, hxx2⟩ : ∃ x2, f[2]'(by omega) = x2 := ⟨_, rfl⟩
      rw [hxx0] at hy0 hc0e
      rw [hxx1] at hy1 hc1e
      rw [hxx2] at hy2 hc2e
      have HH : Aside0 (longHit kind v f = (!eqB x0 ⟨#[112, 114]⟩ && decide (numB x0 = kind) && eqB x1 v)) := ⟨by unfold longHit; rw [hc0e, hc1e]⟩
      have HNX : Aside0 (longHit kind v f = false → longL kind v (R.drop (k + 1)) = ans) := ⟨fun h => by rw [← HF.out, longL, if_neg (by rw [h]; decide)]⟩
      have HYS : Aside0 (longHit kind v f = true → ans = some x2) := ⟨fun h => by rw [← HF.out, longL, if_pos h, hc2e]⟩
      clear hxx0 hxx1 hxx2 hc0e hc1e hc2e HF
      by_cases hpr : x0 = ⟨#[112, 114]⟩
      · subst hpr
        have HAN := Aside0.mk (HNX.out (by rw [HH.out, eqB_self]; rfl))
        clear HNX HYS HH
        go_wp2
        go_roundg (R.length - k - 1)
        case measure => have := HA.out; omega
        case rel => exact ⟨k + 1, by go_num, ⟨by omega, by omega⟩, HAN, HB⟩
      · have hbq := beq_toList hpr
        have hbl : ¬ x0.toList = [112, 114] := fun e => by rw [Lib.toList_data] at e; exact hpr (by rw [← bsL_data x0, e]; rfl)
        have hb1 : (x0.toList == [112, 114]) = false := beq_eq_false_iff_ne.2 hbl
        have HH2 : Aside0 (longHit kind v f = (decide (numB x0 = kind) && eqB x1 v)) := ⟨by rw [HH.out, eqB_ne hpr]; rfl⟩
        have HNUM := Aside0.mk (fun W => refNumber_any x0 W)
        obtain ⟨n0, hn0⟩ : ∃ n0, numB x0 = n0 := ⟨_, rfl⟩
        rw [hn0] at HNUM HH2
        clear hn0 HH
        go_wp2_with fail
        refine (HNUM.out _).mono ?_
        rintro e w5 ⟨rfl, hb5⟩
        have HB5 : Aside0 (Below w3.heap.size w3 w5) := ⟨below_to HB.out hb5⟩
        replace hy0 := pw_cell_below hb5 hy0
        replace hy1 := pw_cell_below hb5 hy1
        replace hy2 := pw_cell_below hb5 hy2
        clear hb5
        by_cases hk2 : n0 = kind
        · subst hk2
          by_cases hv : x1 = v
          · subst hv
            have HAN := Aside0.mk (HYS.out (by rw [HH2.out, eqB_self]; simp))
            have HBZ : Aside0 (Below w.heap.size w w5) := ⟨below_to HB3.out HB5.out⟩
            clear HNX HYS
            go_wp2
            go_ret2
            rw [HAN.out]
            exact ⟨rfl, HBZ.out⟩
          · have hbv := beq_toList hv
            have HAN := Aside0.mk (HNX.out (by rw [HH2.out, eqB_ne hv]; simp))
            clear HNX HYS
            go_wp2
            go_roundg (R.length - k - 1)
            case measure => have := HA.out; omega
            case rel => exact ⟨k + 1, by go_num, ⟨by omega, by omega⟩, HAN, HB5⟩
        · have hk3 : (n0 == kind) = false := beq_eq_false_iff_ne.2 hk2
          have HAN := Aside0.mk (HNX.out (by rw [HH2.out]; simp [hk2]))
          clear HNX HYS
          go_wp2
          go_roundg (R.length - k - 1)
          case measure => have := HA.out; omega
          case rel => exact ⟨k + 1, by go_num, ⟨by omega, by omega⟩, HAN, HB5⟩
    · have HAN : Aside0 (ans = none) := ⟨by rw [← HF.out, List.drop_of_length_le (by omega)]; rfl⟩
      go_wp2
      go_ret2
      rw [HAN.out]
      exact ⟨rfl, HBW.out⟩

end Go.Proofs.YtooehjbbphokbaaDoor
