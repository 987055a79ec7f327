/- Merged: NmG, NmH, NmI. -/
import Derived.Test.YtooehjbbphokbaaDoorNmE
import Derived.Test.YtooehjbbphokbaaDoorLnW
/- Walks: names.Long, and the reference's. -/
namespace Go.Proofs.YtooehjbbphokbaaDoor
set_option linter.unusedVariables false
set_option linter.unusedSimpArgs false
open Go.RowKit Go.Proofs.YtooehjbbphokbaaDoorW.PrintWords Go.Proofs.YtooehjbbphokbaaDoorW.PrintLast Go.Proofs.YtooehjbbphokbaaDoorW.PrintMore Go.Proofs.YtooehjbbphokbaaDoor.PLinesRead

theorem bne_toList {a b : ByteArray} (h : a ≠ b) : (a.toList != b.toList) = true := by
  unfold bne
  rw [beq_toList h]
  rfl
theorem rows_rd (b : ByteArray) (m : Int) (W : World) (hbs : b.size < 4294967281) (hm : MaxIs W m) :
    Calls Tryd.prog 21 #[.string b] W fun e w' => ∃ v, e = .returned v ∧ RdS kSl w' v (rowsB b) ∧ Below W.heap.size W w' := by
  refine (rows_any b m W hbs hm).mono ?_
  rintro e w' ⟨v, rfl, h, hb⟩
  exact ⟨v, rfl, RdS.of_R h, hb⟩
theorem refNumber_any (k : ByteArray) (w : World) : Calls Tryd.prog 51 #[.string k] w fun e w' => e = .returned (.int .i64 (numB k)) ∧ Below w.heap.size w w' := by
  refine (Go.Proofs.YtooehjbbphokbaaDoor.PNamesBack.rubricatorref05_number.calls k (numB k) w ?_).mono ?_
  · unfold Go.Proofs.YtooehjbbphokbaaDoor.PNamesBack.rubricatorref05_number.f numB
    split
    · rfl
    · split <;> rfl
  · rintro e w' ⟨rfl, hd⟩
    exact ⟨rfl, hd.below⟩

set_option maxHeartbeats 4000000 in
set_option maxRecDepth 100000 in
theorem long_any (b : ByteArray) (hal : AliasIs b) (kind : Int) (v : ByteArray) (m : Int) (w : World) (hm : MaxIs w m) :
    Calls Tryd.prog 30 #[.int .i64 kind, .string v] w fun e w' => e = .returned (.tuple #[.string ((longL kind v (rowsB b)).getD ByteArray.empty), .bool (longL kind v (rowsB b)).isSome]) ∧ Below w.heap.size w w' := by
  obtain ⟨ha, hbs, hok, -, -⟩ := hal
  have HRK := Aside0.mk (fun f (hf : f ∈ rowsB b) => row_ok hok hf)
  have HRW := Aside0.mk (fun W (hm : MaxIs W m) => rows_rd b m W hbs hm)
  have HRL := rowsB_len b
  obtain ⟨R, hR⟩ : ∃ R, rowsB b = R := ⟨_, rfl⟩
  rw [hR] at HRK HRW HRL ⊢
  have HE : Aside0 (longL kind v (R.drop 0) = longL kind v R) := ⟨rfl⟩
  obtain ⟨ans, hans⟩ : ∃ ans, longL kind v R = ans := ⟨_, rfl⟩
  rw [hans] at HE ⊢
  have HM := Aside0.mk hm
  have HAL := Aside0.mk ha
  have hrl : R.length < 4294967290 := by omega
  clear ha hbs hok hR HRL hans hm
  go_enter Tryd.func30, Tryd.ntmps30
  go_wp2_with fail
  refine (HAL.out _).mono ?_
  rintro e w2 ⟨rfl, hb2⟩
  have HB2 : Aside0 (Below w.heap.size w w2) := ⟨hb2⟩
  clear hb2
  go_wp2_with fail
  refine (HRW.out _ (HM.out.below HB2.out)).mono ?_
  rintro e w3 ⟨v3, rfl, ho3, hb3⟩
  have HB3 : Aside0 (Below w.heap.size w w3) := ⟨below_to HB2.out hb3⟩
  obtain ⟨A, c, rfl, hc, hr⟩ := ho3
  have HR := Aside0.mk hr
  clear hb3 hr
  go_wp2
  go_loopg [11] R.length (fun gk i w' => ∃ (k : Nat), i = .int .i64 (k : Int) ∧ Aside0 (k ≤ R.length ∧ gk = R.length - k) ∧ Aside0 (longL kind v (R.drop k) = ans) ∧ Aside0 (Below w3.heap.size w3 w'))
  case atStart => exact ⟨0, by first | rfl | simp, ⟨Nat.zero_le _, rfl⟩, HE, ⟨Below.refl _ _⟩⟩
  case round =>
    obtain ⟨k, rfl, HA, HF, HB⟩ := hrel
    have HBW : Aside0 (Below w.heap.size w wr) := ⟨below_to HB3.out HB.out⟩
    by_cases hk : k < R.length
    · obtain ⟨ad, A0, c0, rfl, hx0, hxl, hxr⟩ := at_L2 HR.out (k : Int) (by omega) (by omega)
      replace hx0 := pw_cell_below HB.out hx0
      replace hxr := Kd.C_below hxr HB.out
      have hfR : rd_L2 R (k : Int) = R[k] := by simp [rd_L2, hk]
      have hok := HRK.out R[k] (List.getElem_mem hk)
      have hdr : R.drop k = R[k] :: R.drop (k + 1) := List.drop_eq_getElem_cons hk
      rw [hfR] at hx0 hxl hxr
      rw [hdr] at HF
      obtain ⟨f, hff⟩ : ∃ f, R[k] = f := ⟨_, rfl⟩
      rw [hff] at hx0 hxl hxr hok HF
      clear hfR hff hdr
      obtain ⟨hf3, -, -⟩ := hok
      simp only [Int.toNat_natCast] at hx0
      obtain ⟨ad0, rfl, hy0⟩ := at_S hxr 0 (by omega)
      obtain ⟨ad0', he1, hy1⟩ := at_S hxr 1 (by omega)
      cases he1
      obtain ⟨ad0', he2, hy2⟩ := at_S hxr 2 (by omega)
      cases he2
      rw [add_zero] at hy0
      have ha1 := add_field ad0 0 1 (by omega)
      have ha2 := add_field ad0 0 2 (by omega)
      rw [Nat.zero_add, add_zero] at ha1 ha2
      rw [ha1] at hy1
      rw [ha2] at hy2
      clear ha1 ha2 hxr
      have hc0e := cell_at (show 0 < f.length by omega)
      have hc1e := cell_at (show 1 < f.length by omega)
      have hc2e := cell_at (show 2 < f.length by omega)
      obtain ⟨x0, hxx0⟩ : ∃ x0, f[0]'(by omega) = x0 := ⟨_, rfl⟩
      obtain ⟨x1, hxx1⟩ : ∃ x1, f[1]'(by omega) = x1 := ⟨_, rfl⟩
      obtain ⟨x2, hxx2⟩ : ∃ x2, f[2]'(by omega) = x2 := ⟨_, rfl⟩
      rw [hxx0] at hy0 hc0e
      rw [hxx1] at hy1 hc1e
      rw [hxx2] at hy2 hc2e
      have HH : Aside0 (longHit kind v f = (!eqB x0 ⟨#[112, 114]⟩ && decide (numB x0 = kind) && eqB x1 v)) := ⟨by unfold longHit; rw [hc0e, hc1e]⟩
      have HNX : Aside0 (longHit kind v f = false → longL kind v (R.drop (k + 1)) = ans) := ⟨fun h => by rw [← HF.out, longL, if_neg (by rw [h]; decide)]⟩
      have HYS : Aside0 (longHit kind v f = true → ans = some x2) := ⟨fun h => by rw [← HF.out, longL, if_pos h, hc2e]⟩
      clear hxx0 hxx1 hxx2 hc0e hc1e hc2e HF
      by_cases hpr : x0 = ⟨#[112, 114]⟩
      · subst hpr
        have HAN := Aside0.mk (HNX.out (by rw [HH.out, eqB_self]; rfl))
        clear HNX HYS HH
        go_wp2
        go_roundg (R.length - k - 1)
        case measure => have := HA.out; omega
        case rel => exact ⟨k + 1, by go_num, ⟨by omega, by omega⟩, HAN, HB⟩
      · have hbq := beq_toList hpr
        have hbl : ¬ x0.toList = [112, 114] := fun e => by rw [Lib.toList_data] at e; exact hpr (by rw [← bsL_data x0, e]; rfl)
        have hb1 : (x0.toList == [112, 114]) = false := beq_eq_false_iff_ne.2 hbl
        have HH2 : Aside0 (longHit kind v f = (decide (numB x0 = kind) && eqB x1 v)) := ⟨by rw [HH.out, eqB_ne hpr]; rfl⟩
        have HNUM := Aside0.mk (fun W => number_any x0 W)
        obtain ⟨n0, hn0⟩ : ∃ n0, numB x0 = n0 := ⟨_, rfl⟩
        rw [hn0] at HNUM HH2
        clear hn0 HH
        go_wp2_with fail
        refine (HNUM.out _).mono ?_
        rintro e w5 ⟨rfl, hb5⟩
        have HB5 : Aside0 (Below w3.heap.size w3 w5) := ⟨below_to HB.out hb5⟩
        replace hy0 := pw_cell_below hb5 hy0
        replace hy1 := pw_cell_below hb5 hy1
        replace hy2 := pw_cell_below hb5 hy2
        clear hb5
        by_cases hk2 : n0 = kind
        · subst hk2
          by_cases hv : x1 = v
          · subst hv
            have HAN := Aside0.mk (HYS.out (by rw [HH2.out, eqB_self]; simp))
            have HBZ : Aside0 (Below w.heap.size w w5) := ⟨below_to HB3.out HB5.out⟩
            clear HNX HYS
            go_wp2
            go_ret2
            rw [HAN.out]
            exact ⟨rfl, HBZ.out⟩
          · have hbv := beq_toList hv
            have HAN := Aside0.mk (HNX.out (by rw [HH2.out, eqB_ne hv]; simp))
            clear HNX HYS
            go_wp2
            go_roundg (R.length - k - 1)
            case measure => have := HA.out; omega
            case rel => exact ⟨k + 1, by go_num, ⟨by omega, by omega⟩, HAN, HB5⟩
        · have hk3 : (n0 == kind) = false := beq_eq_false_iff_ne.2 hk2
          have HAN := Aside0.mk (HNX.out (by rw [HH2.out]; simp [hk2]))
          clear HNX HYS
          go_wp2
          go_roundg (R.length - k - 1)
          case measure => have := HA.out; omega
          case rel => exact ⟨k + 1, by go_num, ⟨by omega, by omega⟩, HAN, HB5⟩
    · have HAN : Aside0 (ans = none) := ⟨by rw [← HF.out, List.drop_of_length_le (by omega)]; rfl⟩
      go_wp2
      go_ret2
      rw [HAN.out]
      exact ⟨rfl, HBW.out⟩

set_option maxHeartbeats 4000000 in
set_option maxRecDepth 100000 in
theorem refLong_any (b : ByteArray) (hal : AliasIs b) (kind : Int) (v : ByteArray) (m : Int) (w : World) (hm : MaxIs w m) :
    Calls Tryd.prog 31 #[.int .i64 kind, .string v] w fun e w' => e = .returned (.tuple #[.string ((longL kind v (rowsB b)).getD ByteArray.empty), .bool (longL kind v (rowsB b)).isSome]) ∧ Below w.heap.size w w' := by
  obtain ⟨ha, hbs, hok, -, -⟩ := hal
  have HRK := Aside0.mk (fun f (hf : f ∈ rowsB b) => row_ok hok hf)
  have HRW := Aside0.mk (fun W (hm : MaxIs W m) => refRows_any b W hbs)
  have HRL := rowsB_len b
  obtain ⟨R, hR⟩ : ∃ R, rowsB b = R := ⟨_, rfl⟩
  rw [hR] at HRK HRW HRL ⊢
  have HE : Aside0 (longL kind v (R.drop 0) = longL kind v R) := ⟨rfl⟩
  obtain ⟨ans, hans⟩ : ∃ ans, longL kind v R = ans := ⟨_, rfl⟩
  rw [hans] at HE ⊢
  have HM := Aside0.mk hm
  have HAL := Aside0.mk ha
  have hrl : R.length < 4294967290 := by omega
  clear ha hbs hok hR HRL hans hm
  go_enter Tryd.func31, Tryd.ntmps31
  go_wp2_with fail
  refine (HAL.out _).mono ?_
  rintro e w2 ⟨rfl, hb2⟩
  have HB2 : Aside0 (Below w.heap.size w w2) := ⟨hb2⟩
  clear hb2
  go_wp2_with fail
  refine (HRW.out _ (HM.out.below HB2.out)).mono ?_
  rintro e w3 ⟨v3, rfl, ho3, hb3⟩
  have HB3 : Aside0 (Below w.heap.size w w3) := ⟨below_to HB2.out hb3⟩
  obtain ⟨A, c, rfl, hc, hr⟩ := ho3
  have HR := Aside0.mk hr
  clear hb3 hr
  go_wp2
  go_loopg [11] R.length (fun gk i w' => ∃ (k : Nat), i = .int .i64 (k : Int) ∧ Aside0 (k ≤ R.length ∧ gk = R.length - k) ∧ Aside0 (longL kind v (R.drop k) = ans) ∧ Aside0 (Below w3.heap.size w3 w'))
  case atStart => exact ⟨0, by first | rfl | simp, ⟨Nat.zero_le _, rfl⟩, HE, ⟨Below.refl _ _⟩⟩
  case round =>
    obtain ⟨k, rfl, HA, HF, HB⟩ := hrel
    have HBW : Aside0 (Below w.heap.size w wr) := ⟨below_to HB3.out HB.out⟩
    by_cases hk : k < R.length
    · obtain ⟨ad, A0, c0, rfl, hx0, hxl, hxr⟩ := at_L2 HR.out (k : Int) (by omega) (by omega)
      replace hx0 := pw_cell_below HB.out hx0
      replace hxr := Kd.C_below hxr HB.out
      have hfR : rd_L2 R (k : Int) = R[k] := by simp [rd_L2, hk]
      have hok := HRK.out R[k] (List.getElem_mem hk)
      have hdr : R.drop k = R[k] :: R.drop (k + 1) := List.drop_eq_getElem_cons hk
      rw [hfR] at hx0 hxl hxr
      rw [hdr] at HF
      obtain ⟨f, hff⟩ : ∃ f, R[k] = f := ⟨_, rfl⟩
      rw [hff] at hx0 hxl hxr hok HF
      clear hfR hff hdr
      obtain ⟨hf3, -, -⟩ := hok
      simp only [Int.toNat_natCast] at hx0
      obtain ⟨ad0, rfl, hy0⟩ := at_S hxr 0 (by omega)
      obtain ⟨ad0', he1, hy1⟩ := at_S hxr 1 (by omega)
      cases he1
      obtain ⟨ad0', he2, hy2⟩ := at_S hxr 2 (by omega)
      cases he2
      rw [add_zero] at hy0
      have ha1 := add_field ad0 0 1 (by omega)
      have ha2 := add_field ad0 0 2 (by omega)
      rw [Nat.zero_add, add_zero] at ha1 ha2
      rw [ha1] at hy1
      rw [ha2] at hy2
      clear ha1 ha2 hxr
      have hc0e := cell_at (show 0 < f.length by omega)
      have hc1e := cell_at (show 1 < f.length by omega)
      have hc2e := cell_at (show 2 < f.length by omega)
      obtain ⟨x0, hxx0⟩ : ∃ x0, f[0]'(by omega) = x0 := ⟨_, rfl⟩
      obtain ⟨x1, hxx1⟩ : ∃ x1, f[1]'(by omega) = x1 := ⟨_, rfl⟩
      obtain ⟨x2, hxx2⟩ : ∃ x2, f[2]'(by omega) = x2 := ⟨_, rfl⟩
      rw [hxx0] at hy0 hc0e
      rw [hxx1] at hy1 hc1e
      rw [hxx2] at hy2 hc2e
      have HH : Aside0 (longHit kind v f = (!eqB x0 ⟨#[112, 114]⟩ && decide (numB x0 = kind) && eqB x1 v)) := ⟨by unfold longHit; rw [hc0e, hc1e]⟩
      have HNX : Aside0 (longHit kind v f = false → longL kind v (R.drop (k + 1)) = ans) := ⟨fun h => by rw [← HF.out, longL, if_neg (by rw [h]; decide)]⟩
      have HYS : Aside0 (longHit kind v f = true → ans = some x2) := ⟨fun h => by rw [← HF.out, longL, if_pos h, hc2e]⟩
      clear hxx0 hxx1 hxx2 hc0e hc1e hc2e HF
      by_cases hpr : x0 = ⟨#[112, 114]⟩
      · subst hpr
        have HAN := Aside0.mk (HNX.out (by rw [HH.out, eqB_self]; rfl))
        clear HNX HYS HH
        go_wp2
        go_roundg (R.length - k - 1)
        case measure => have := HA.out; omega
        case rel => exact ⟨k + 1, by go_num, ⟨by omega, by omega⟩, HAN, HB⟩
      · have hbq := beq_toList hpr
        have hbl : ¬ x0.toList = [112, 114] := fun e => by rw [Lib.toList_data] at e; exact hpr (by rw [← bsL_data x0, e]; rfl)
        have hb1 : (x0.toList == [112, 114]) = false := beq_eq_false_iff_ne.2 hbl
        have HH2 : Aside0 (longHit kind v f = (decide (numB x0 = kind) && eqB x1 v)) := ⟨by rw [HH.out, eqB_ne hpr]; rfl⟩
        have HNUM := Aside0.mk (fun W => refNumber_any x0 W)
        obtain ⟨n0, hn0⟩ : ∃ n0, numB x0 = n0 := ⟨_, rfl⟩
        rw [hn0] at HNUM HH2
        clear hn0 HH
        go_wp2_with fail
        refine (HNUM.out _).mono ?_
        rintro e w5 ⟨rfl, hb5⟩
        have HB5 : Aside0 (Below w3.heap.size w3 w5) := ⟨below_to HB.out hb5⟩
        replace hy0 := pw_cell_below hb5 hy0
        replace hy1 := pw_cell_below hb5 hy1
        replace hy2 := pw_cell_below hb5 hy2
        clear hb5
        by_cases hk2 : n0 = kind
        · subst hk2
          by_cases hv : x1 = v
          · subst hv
            have HAN := Aside0.mk (HYS.out (by rw [HH2.out, eqB_self]; simp))
            have HBZ : Aside0 (Below w.heap.size w w5) := ⟨below_to HB3.out HB5.out⟩
            clear HNX HYS
            go_wp2
            go_ret2
            rw [HAN.out]
            exact ⟨rfl, HBZ.out⟩
          · have hbv := beq_toList hv
            have HAN := Aside0.mk (HNX.out (by rw [HH2.out, eqB_ne hv]; simp))
            clear HNX HYS
            go_wp2
            go_roundg (R.length - k - 1)
            case measure => have := HA.out; omega
            case rel => exact ⟨k + 1, by go_num, ⟨by omega, by omega⟩, HAN, HB5⟩
        · have hk3 : (n0 == kind) = false := beq_eq_false_iff_ne.2 hk2
          have HAN := Aside0.mk (HNX.out (by rw [HH2.out]; simp [hk2]))
          clear HNX HYS
          go_wp2
          go_roundg (R.length - k - 1)
          case measure => have := HA.out; omega
          case rel => exact ⟨k + 1, by go_num, ⟨by omega, by omega⟩, HAN, HB5⟩
    · have HAN : Aside0 (ans = none) := ⟨by rw [← HF.out, List.drop_of_length_le (by omega)]; rfl⟩
      go_wp2
      go_ret2
      rw [HAN.out]
      exact ⟨rfl, HBW.out⟩

end Go.Proofs.YtooehjbbphokbaaDoor

/- Walk: the reference's value of a kind. -/
namespace Go.Proofs.YtooehjbbphokbaaDoor
set_option linter.unusedVariables false
set_option linter.unusedSimpArgs false
open Go.RowKit Go.Proofs.YtooehjbbphokbaaDoorW.PrintWords Go.Proofs.YtooehjbbphokbaaDoorW.PrintLast Go.Proofs.YtooehjbbphokbaaDoorW.PrintMore Go.Proofs.YtooehjbbphokbaaDoor.PLinesRead

theorem rowHit_three {f : List ByteArray} (h : f.length = 3) (kind want : ByteArray) : rowHit kind want f = (eqB (cellB f 0) kind && (eqB (looseB (cellB f 1)) want || eqB (looseB (cellB f 2)) want)) := by
  match f, h with
  | [a, b, c], _ =>
    unfold rowHit
    simp [cellB]

set_option maxHeartbeats 4000000 in
set_option maxRecDepth 100000 in
theorem value_any (b : ByteArray) (hal : AliasIs b) (kind s : ByteArray) (w : World) (hs : s.size < 140737488355328) :
    Calls Tryd.prog 50 #[.string kind, .string s] w fun e w' => e = .returned (.string ((findL kind (looseB s) (rowsB b)).getD ByteArray.empty)) ∧ Below w.heap.size w w' := by
  obtain ⟨ha, hbs, hok, -, -⟩ := hal
  have HRK := Aside0.mk (fun f (hf : f ∈ rowsB b) => row_ok hok hf)
  have HRW := Aside0.mk (fun W => refRows_any b W hbs)
  have HRL := rowsB_len b
  obtain ⟨R, hR⟩ : ∃ R, rowsB b = R := ⟨_, rfl⟩
  rw [hR] at HRK HRW HRL ⊢
  have HL := Aside0.mk (fun W => refLoose_any s W hs)
  obtain ⟨want, hwant⟩ : ∃ want, looseB s = want := ⟨_, rfl⟩
  rw [hwant] at HL ⊢
  have HE : Aside0 (findL kind want (R.drop 0) = findL kind want R) := ⟨rfl⟩
  obtain ⟨ans, hans⟩ : ∃ ans, findL kind want R = ans := ⟨_, rfl⟩
  rw [hans] at HE ⊢
  have HAL := Aside0.mk ha
  have hrl : R.length < 4294967290 := by omega
  clear ha hbs hok hR HRL hwant hans
  go_enter Tryd.func50, Tryd.ntmps50
  go_wp2_with fail
  refine (HAL.out _).mono ?_
  rintro e w2 ⟨rfl, hb2⟩
  have HB2 : Aside0 (Below w.heap.size w w2) := ⟨hb2⟩
  clear hb2
  go_wp2_with fail
  refine (HRW.out _).mono ?_
  rintro e w3 ⟨v3, rfl, ho3, hb3⟩
  have HB3 : Aside0 (Below w.heap.size w w3) := ⟨below_to HB2.out hb3⟩
  obtain ⟨A, c, rfl, hc, hr⟩ := ho3
  have HR := Aside0.mk hr
  clear hb3 hr
  go_wp2
  go_loopg [10] R.length (fun gk i w' => ∃ (k : Nat), i = .int .i64 (k : Int) ∧ Aside0 (k ≤ R.length ∧ gk = R.length - k) ∧ Aside0 (findL kind want (R.drop k) = ans) ∧ Aside0 (Below w3.heap.size w3 w'))
  case atStart => exact ⟨0, by first | rfl | simp, ⟨Nat.zero_le _, rfl⟩, HE, ⟨Below.refl _ _⟩⟩
  case round =>
    obtain ⟨k, rfl, HA, HF, HB⟩ := hrel
    have HBW : Aside0 (Below w.heap.size w wr) := ⟨below_to HB3.out HB.out⟩
    by_cases hk : k < R.length
    · obtain ⟨ad, A0, c0, rfl, hx0, hxl, hxr⟩ := at_L2 HR.out (k : Int) (by omega) (by omega)
      replace hx0 := pw_cell_below HB.out hx0
      replace hxr := Kd.C_below hxr HB.out
      have hfR : rd_L2 R (k : Int) = R[k] := by simp [rd_L2, hk]
      have hok := HRK.out R[k] (List.getElem_mem hk)
      have hdr : R.drop k = R[k] :: R.drop (k + 1) := List.drop_eq_getElem_cons hk
      rw [hfR] at hx0 hxl hxr
      rw [hdr] at HF
      obtain ⟨f, hff⟩ : ∃ f, R[k] = f := ⟨_, rfl⟩
      rw [hff] at hx0 hxl hxr hok HF
      clear hfR hff hdr
      obtain ⟨hf3, hfs, -⟩ := hok
      simp only [Int.toNat_natCast] at hx0
      obtain ⟨ad0, rfl, hy0⟩ := at_S hxr 0 (by omega)
      obtain ⟨ad0', he1, hy1⟩ := at_S hxr 1 (by omega)
      cases he1
      obtain ⟨ad0', he2, hy2⟩ := at_S hxr 2 (by omega)
      cases he2
      rw [add_zero] at hy0
      have ha1 := add_field ad0 0 1 (by omega)
      have ha2 := add_field ad0 0 2 (by omega)
      rw [Nat.zero_add, add_zero] at ha1 ha2
      rw [ha1] at hy1
      rw [ha2] at hy2
      clear ha1 ha2 hxr
      have hc0e := cell_at (show 0 < f.length by omega)
      have hc1e := cell_at (show 1 < f.length by omega)
      have hc2e := cell_at (show 2 < f.length by omega)
      have hs1 := hfs _ (List.getElem_mem (show 1 < f.length by omega))
      have hs2 := hfs _ (List.getElem_mem (show 2 < f.length by omega))
      obtain ⟨x0, hxx0⟩ : ∃ x0, f[0]'(by omega) = x0 := ⟨_, rfl⟩
      obtain ⟨x1, hxx1⟩ : ∃ x1, f[1]'(by omega) = x1 := ⟨_, rfl⟩
      obtain ⟨x2, hxx2⟩ : ∃ x2, f[2]'(by omega) = x2 := ⟨_, rfl⟩
      rw [hxx0] at hy0 hc0e
      rw [hxx1] at hy1 hc1e hs1
      rw [hxx2] at hy2 hc2e hs2
      have HH : Aside0 (rowHit kind want f = (eqB x0 kind && (eqB (looseB x1) want || eqB (looseB x2) want))) := ⟨by rw [rowHit_three hf3, hc0e, hc1e, hc2e]⟩
      have HNX : Aside0 (rowHit kind want f = false → findL kind want (R.drop (k + 1)) = ans) := ⟨fun h => by rw [← HF.out, findL, if_neg (by rw [h]; decide)]⟩
      have HYS : Aside0 (rowHit kind want f = true → ans = some x1) := ⟨fun h => by rw [← HF.out, findL, if_pos h, hc1e]⟩
      have HL1 := Aside0.mk (fun W => refLoose_any x1 W (by omega))
      have HL2 := Aside0.mk (fun W => refLoose_any x2 W (by omega))
      obtain ⟨l1, hl1⟩ : ∃ l1, looseB x1 = l1 := ⟨_, rfl⟩
      obtain ⟨l2, hl2⟩ : ∃ l2, looseB x2 = l2 := ⟨_, rfl⟩
      rw [hl1] at HL1 HH
      rw [hl2] at HL2 HH
      clear hxx0 hxx1 hxx2 hc0e hc1e hc2e HF hfs hs1 hs2 hl1 hl2
      by_cases hkd : x0 = kind
      · subst hkd
        have HH2 : Aside0 (rowHit x0 want f = (eqB l1 want || eqB l2 want)) := ⟨by rw [HH.out, eqB_self]; rfl⟩
        clear HH
        go_wp2_with fail
        refine (HL1.out _).mono ?_
        rintro e w5 ⟨rfl, hb5⟩
        have HB5 : Aside0 (Below w3.heap.size w3 w5) := ⟨below_to HB.out hb5⟩
        replace hy0 := pw_cell_below hb5 hy0
        replace hy1 := pw_cell_below hb5 hy1
        replace hy2 := pw_cell_below hb5 hy2
        clear hb5
        go_wp2_with fail
        refine (HL.out _).mono ?_
        rintro e w6 ⟨rfl, hb6⟩
        have HB6 : Aside0 (Below w3.heap.size w3 w6) := ⟨below_to HB5.out hb6⟩
        replace hy0 := pw_cell_below hb6 hy0
        replace hy1 := pw_cell_below hb6 hy1
        replace hy2 := pw_cell_below hb6 hy2
        clear hb6
        by_cases h1 : l1 = want
        · subst h1
          have HAN := Aside0.mk (HYS.out (by rw [HH2.out, eqB_self]; rfl))
          have HBZ : Aside0 (Below w.heap.size w w6) := ⟨below_to HB3.out HB6.out⟩
          clear HNX HYS
          go_wp2
          go_ret
          rw [HAN.out]
          exact ⟨rfl, HBZ.out⟩
        · have hq1 := beq_toList h1
          have hn1 : ¬ l1.toList = want.toList := fun e => by rw [e] at hq1; simp at hq1
          have HH3 : Aside0 (rowHit x0 want f = eqB l2 want) := ⟨by rw [HH2.out, eqB_ne h1]; rfl⟩
          clear HH2
          go_wp2_with fail
          refine (HL2.out _).mono ?_
          rintro e w7 ⟨rfl, hb7⟩
          have HB7 : Aside0 (Below w3.heap.size w3 w7) := ⟨below_to HB6.out hb7⟩
          replace hy0 := pw_cell_below hb7 hy0
          replace hy1 := pw_cell_below hb7 hy1
          replace hy2 := pw_cell_below hb7 hy2
          clear hb7
          go_wp2_with fail
          refine (HL.out _).mono ?_
          rintro e w8 ⟨rfl, hb8⟩
          have HB8 : Aside0 (Below w3.heap.size w3 w8) := ⟨below_to HB7.out hb8⟩
          replace hy0 := pw_cell_below hb8 hy0
          replace hy1 := pw_cell_below hb8 hy1
          replace hy2 := pw_cell_below hb8 hy2
          clear hb8
          by_cases h2 : l2 = want
          · subst h2
            have HAN := Aside0.mk (HYS.out (by rw [HH3.out, eqB_self]))
            have HBZ : Aside0 (Below w.heap.size w w8) := ⟨below_to HB3.out HB8.out⟩
            clear HNX HYS
            go_wp2
            go_ret
            rw [HAN.out]
            exact ⟨rfl, HBZ.out⟩
          · have hq2 := beq_toList h2
            have hn2 : ¬ l2.toList = want.toList := fun e => by rw [e] at hq2; simp at hq2
            have HAN := Aside0.mk (HNX.out (by rw [HH3.out, eqB_ne h2]))
            clear HNX HYS
            go_wp2
            go_roundg (R.length - k - 1)
            case measure => have := HA.out; omega
            case rel => exact ⟨k + 1, by go_num, ⟨by omega, by omega⟩, HAN, HB8⟩
      · have hq0 := beq_toList hkd
        have hn0 : ¬ x0.toList = kind.toList := fun e => by rw [e] at hq0; simp at hq0
        have HAN := Aside0.mk (HNX.out (by rw [HH.out, eqB_ne hkd]; rfl))
        clear HNX HYS HH
        go_wp2
        go_roundg (R.length - k - 1)
        case measure => have := HA.out; omega
        case rel => exact ⟨k + 1, by go_num, ⟨by omega, by omega⟩, HAN, HB⟩
    · have HAN : Aside0 (ans = none) := ⟨by rw [← HF.out, List.drop_of_length_le (by omega)]; rfl⟩
      go_wp2
      go_ret
      rw [HAN.out]
      exact ⟨rfl, HBW.out⟩

end Go.Proofs.YtooehjbbphokbaaDoor

/- Walk: the reference's Resolve. -/
namespace Go.Proofs.YtooehjbbphokbaaDoor
set_option linter.unusedVariables false
set_option linter.unusedSimpArgs false
open Go.RowKit Go.Proofs.YtooehjbbphokbaaDoorW.PrintWords Go.Proofs.YtooehjbbphokbaaDoorW.PrintLast Go.Proofs.YtooehjbbphokbaaDoorW.PrintMore

theorem idxL_hit : ∀ (L : List UInt8) (i : Nat) (hi : i < L.length), (∀ b ∈ L.take i, ¬ (b = 61 ∨ b = 58)) → (L[i] = 61 ∨ L[i] = 58) → idxL L = some i
  | b :: l, 0, hi, _, hb => by
    have hb' : b = 61 ∨ b = 58 := hb
    rw [idxL, if_pos hb']
  | b :: l, i + 1, hi, h, hb => by
    have h0 : ¬ (b = 61 ∨ b = 58) := h b (by rw [List.take_succ_cons]; exact List.mem_cons_self)
    have ih := idxL_hit l i (by simpa using hi) (fun x hx => h x (by rw [List.take_succ_cons]; exact List.mem_cons_of_mem _ hx)) (by simpa using hb)
    rw [idxL, if_neg h0, ih]
    rfl
theorem idxL_none : ∀ (L : List UInt8), (∀ b ∈ L, ¬ (b = 61 ∨ b = 58)) → idxL L = none
  | [], _ => rfl
  | b :: l, h => by
    rw [idxL, if_neg (h b List.mem_cons_self), idxL_none l (fun x hx => h x (List.mem_cons_of_mem _ hx))]
    rfl
/-- A name that a table gives is not empty. -/
theorem findL_ne {R : List (List ByteArray)} (h : rowsOk R = true) {kind want v : ByteArray} (hv : findL kind want R = some v) : v.size ≠ 0 := by
  have hr := fun f (hf : f ∈ R) => (row_ok h hf).2.2
  clear h
  induction R with
  | nil => cases hv
  | cons f r ih =>
    unfold findL at hv
    split at hv
    · cases hv
      exact hr f List.mem_cons_self
    · exact ih hv (fun g hg => hr g (List.mem_cons_of_mem _ hg))
theorem toList_ne {v : ByteArray} (h : v.size ≠ 0) : v.toList.isEmpty = false ∧ ¬ v.toList = [] := by
  have h1 : ¬ v.toList = [] := fun e => by
    rw [Lib.toList_data] at e
    have := Lib.size_eq v
    rw [e, List.length_nil] at this
    exact h this
  refine ⟨?_, h1⟩
  cases hv : v.toList with
  | nil => exact absurd hv h1
  | cons _ _ => rfl

set_option maxHeartbeats 8000000 in
set_option maxRecDepth 100000 in
theorem refResolve_any (b : ByteArray) (hal : AliasIs b) (s : ByteArray) (w : World) (hs : s.size < 140737488355328) :
    Calls Tryd.prog 29 #[.string s] w fun e w' => e = .returned (.tuple #[.int .i64 (resolveL (rowsB b) s).1, .string (resolveL (rowsB b) s).2.1, .int .i64 (resolveL (rowsB b) s).2.2]) ∧ Below w.heap.size w w' := by
  have HF := Aside0.mk (fun kind (t : ByteArray) (ht : t.size < 140737488355328) W => value_any b hal kind t W ht)
  have HXS : ∀ i j, (s.extract i j).size ≤ s.size := fun i j => by rw [ByteArray.size_extract]; omega
  have HNE := Aside0.mk (fun kind want v (hv : findL kind want (rowsB b) = some v) => toList_ne (findL_ne hal.2.2.1 hv))
  clear hal
  have HIT : Aside0 (∀ i x, s.data.toList[i]? = some x → (∀ y ∈ s.data.toList.take i, ¬ (y = 61 ∨ y = 58)) → (x = 61 ∨ x = 58) → resolveL (rowsB b) s = keyL (rowsB b) (s.extract 0 i) (s.extract (i + 1) s.size)) := ⟨fun i x hx h hb => by
    obtain ⟨hi, rfl⟩ := List.getElem?_eq_some_iff.1 hx
    unfold resolveL
    rw [idxL_hit _ i hi h hb]⟩
  have HNO : Aside0 ((∀ x ∈ s.data.toList, ¬ (x = 61 ∨ x = 58)) → resolveL (rowsB b) s = bareL (rowsB b) s kindsL) := ⟨fun h => by
    unfold resolveL
    rw [idxL_none _ h]⟩
  have HAT : Aside0 (∀ i (hi : i < s.size), s.data.toList[i]? = some (s[i]'hi)) := ⟨fun i hi => by
    rw [List.getElem?_eq_getElem (by rw [← Lib.size_eq s]; exact hi)]
    congr 1⟩
  have hsl := Lib.size_eq s
  obtain ⟨ans, hans⟩ : ∃ ans, resolveL (rowsB b) s = ans := ⟨_, rfl⟩
  rw [hans] at HIT HNO ⊢
  obtain ⟨R, hR⟩ : ∃ R, rowsB b = R := ⟨_, rfl⟩
  rw [hR] at HIT HNO HF HNE
  obtain ⟨L, hL⟩ : ∃ L, s.data.toList = L := ⟨_, rfl⟩
  rw [hL] at HNO hsl HIT
  have HAT2 : Aside0 (∀ i (hi : i < s.size), L[i]? = some (s[i]'hi)) := ⟨fun i hi => by rw [← hL]; exact HAT.out i hi⟩
  clear HAT
  have HSL := Aside0.mk hsl
  clear hans hR hL hsl
  go_enter Tryd.func29, Tryd.ntmps29
  go_wp2
  go_loopg [5] s.size (fun gk i w' => ∃ (k : Nat), i = .int .i64 (k : Int) ∧ Aside0 (k ≤ s.size ∧ gk = s.size - k) ∧ Aside0 (∀ x ∈ L.take k, ¬ (x = 61 ∨ x = 58)) ∧ Aside0 (Below w.heap.size w w'))
  case atStart => exact ⟨0, by first | rfl | simp, ⟨Nat.zero_le _, rfl⟩, ⟨fun x hx => by simp at hx⟩, ⟨Below.refl _ _⟩⟩
  case round =>
    obtain ⟨k, rfl, HA, HN, HB⟩ := hrel
    by_cases hk : k < s.size
    · have hkl : k < L.length := by have := HSL.out; omega
      have hat := HAT2.out k hk
      obtain ⟨x, hx⟩ : ∃ x, s[k]'hk = x := ⟨_, rfl⟩
      rw [hx] at hat
      have hxL : L[k] = x := by
        rw [List.getElem?_eq_getElem hkl] at hat
        exact Option.some.inj hat
      by_cases hsep : x = 61 ∨ x = 58
      · have hans := HIT.out k x hat HN.out hsep
        have hs1 := HXS 0 k
        have hs2 := HXS (k + 1) s.size
        have HK := Aside0.mk (fun W => HF.out ⟨#[112, 114]⟩ (s.extract 0 k) (by omega) W)
        have HV := Aside0.mk (fun q W => HF.out q (s.extract (k + 1) s.size) (by omega) W)
        have HRE2 : Aside0 (ans = match findL ⟨#[112, 114]⟩ (looseB (s.extract 0 k)) R with | none => errN | some q => valL R q (s.extract (k + 1) s.size)) := ⟨hans⟩
        obtain ⟨t1, ht1⟩ : ∃ t1, s.extract 0 k = t1 := ⟨_, rfl⟩
        obtain ⟨t2, ht2⟩ : ∃ t2, s.extract (k + 1) s.size = t2 := ⟨_, rfl⟩
        have e1 : ((k : Int)).toNat = k := rfl
        have e2 : ((k : Int) + 1).toNat = k + 1 := rfl
        rw [ht1] at HK HRE2
        rw [ht2] at HV HRE2
        have hNK := HNE.out ⟨#[112, 114]⟩ (looseB t1)
        obtain ⟨F1, hF1⟩ : ∃ F1, findL ⟨#[112, 114]⟩ (looseB t1) R = F1 := ⟨_, rfl⟩
        rw [hF1] at HK HRE2 hNK
        clear hF1 hans hs1 hs2 HIT HNO HF HXS hat hxL HAT2
        have hcase : ((s[k]'hk).toNat : Int) = 61 ∨ ((s[k]'hk).toNat : Int) = 58 := by
          rw [hx]
          rcases hsep with rfl | rfl
          · exact .inl rfl
          · exact .inr rfl
        clear hsep hx
        rcases hcase with hcs | hcs
        · have hcb : (((s[k]'hk).toNat : Int) != 61) = false := by rw [hcs]; rfl
          clear hcs
          cases F1 with
          | none =>
            simp only [Option.getD_none] at HK HRE2
            clear hNK
            go_wp2_with fail
            refine (HK.out _).mono ?_
            rintro e w2 ⟨rfl, hb2⟩
            have HB2 : Aside0 (Below w.heap.size w w2) := ⟨below_to HB.out hb2⟩
            clear hb2 HK HV
            go_wp2
            go_ret3
            rw [HRE2.out]
            exact ⟨rfl, HB2.out⟩
          | some q =>
            simp only [Option.getD_some] at HK HRE2
            obtain ⟨hq0, hq1⟩ := hNK q rfl
            have HVK := Aside0.mk (fun W => HV.out q W)
            have HRE3 : Aside0 (ans = match findL q (looseB t2) R with | none => errV | some v => (numB q, v, 0)) := ⟨HRE2.out⟩
            have hNV := HNE.out q (looseB t2)
            clear HV HRE2 hNK
            obtain ⟨F2, hF2⟩ : ∃ F2, findL q (looseB t2) R = F2 := ⟨_, rfl⟩
            rw [hF2] at HVK HRE3 hNV
            clear hF2
            cases F2 with
            | none =>
              simp only [Option.getD_none] at HVK HRE3
              clear hNV
              go_wp2_with fail
              refine (HK.out _).mono ?_
              rintro e w2 ⟨rfl, hb2⟩
              have HB2 : Aside0 (Below w.heap.size w w2) := ⟨below_to HB.out hb2⟩
              clear hb2 HK
              go_wp2_with fail
              refine (HVK.out _).mono ?_
              rintro e w3 ⟨rfl, hb3⟩
              have HB3 : Aside0 (Below w.heap.size w w3) := ⟨below_to HB2.out hb3⟩
              clear hb3 HVK
              go_wp2
              go_ret3
              rw [HRE3.out]
              exact ⟨rfl, HB3.out⟩
            | some v =>
              simp only [Option.getD_some] at HVK HRE3
              obtain ⟨hv0, hv1⟩ := hNV v rfl
              clear hNV
              go_wp2_with fail
              refine (HK.out _).mono ?_
              rintro e w2 ⟨rfl, hb2⟩
              have HB2 : Aside0 (Below w.heap.size w w2) := ⟨below_to HB.out hb2⟩
              clear hb2 HK
              go_wp2_with fail
              refine (HVK.out _).mono ?_
              rintro e w3 ⟨rfl, hb3⟩
              have HB3 : Aside0 (Below w.heap.size w w3) := ⟨below_to HB2.out hb3⟩
              clear hb3 HVK
              go_wp2_with fail
              refine (refNumber_any q _).mono ?_
              rintro e w4 ⟨rfl, hb4⟩
              have HB4 : Aside0 (Below w.heap.size w w4) := ⟨below_to HB3.out hb4⟩
              clear hb4
              go_wp2
              go_ret3
              rw [HRE3.out]
              exact ⟨rfl, HB4.out⟩
        · have hcb : (((s[k]'hk).toNat : Int) != 58) = false := by rw [hcs]; rfl
          have hcn : (((s[k]'hk).toNat : Int) != 61) = true := by rw [hcs]; rfl
          clear hcs
          cases F1 with
          | none =>
            simp only [Option.getD_none] at HK HRE2
            clear hNK
            go_wp2_with fail
            refine (HK.out _).mono ?_
            rintro e w2 ⟨rfl, hb2⟩
            have HB2 : Aside0 (Below w.heap.size w w2) := ⟨below_to HB.out hb2⟩
            clear hb2 HK HV
            go_wp2
            go_ret3
            rw [HRE2.out]
            exact ⟨rfl, HB2.out⟩
          | some q =>
            simp only [Option.getD_some] at HK HRE2
            obtain ⟨hq0, hq1⟩ := hNK q rfl
            have HVK := Aside0.mk (fun W => HV.out q W)
            have HRE3 : Aside0 (ans = match findL q (looseB t2) R with | none => errV | some v => (numB q, v, 0)) := ⟨HRE2.out⟩
            have hNV := HNE.out q (looseB t2)
            clear HV HRE2 hNK
            obtain ⟨F2, hF2⟩ : ∃ F2, findL q (looseB t2) R = F2 := ⟨_, rfl⟩
            rw [hF2] at HVK HRE3 hNV
            clear hF2
            cases F2 with
            | none =>
              simp only [Option.getD_none] at HVK HRE3
              clear hNV
              go_wp2_with fail
              refine (HK.out _).mono ?_
              rintro e w2 ⟨rfl, hb2⟩
              have HB2 : Aside0 (Below w.heap.size w w2) := ⟨below_to HB.out hb2⟩
              clear hb2 HK
              go_wp2_with fail
              refine (HVK.out _).mono ?_
              rintro e w3 ⟨rfl, hb3⟩
              have HB3 : Aside0 (Below w.heap.size w w3) := ⟨below_to HB2.out hb3⟩
              clear hb3 HVK
              go_wp2
              go_ret3
              rw [HRE3.out]
              exact ⟨rfl, HB3.out⟩
            | some v =>
              simp only [Option.getD_some] at HVK HRE3
              obtain ⟨hv0, hv1⟩ := hNV v rfl
              clear hNV
              go_wp2_with fail
              refine (HK.out _).mono ?_
              rintro e w2 ⟨rfl, hb2⟩
              have HB2 : Aside0 (Below w.heap.size w w2) := ⟨below_to HB.out hb2⟩
              clear hb2 HK
              go_wp2_with fail
              refine (HVK.out _).mono ?_
              rintro e w3 ⟨rfl, hb3⟩
              have HB3 : Aside0 (Below w.heap.size w w3) := ⟨below_to HB2.out hb3⟩
              clear hb3 HVK
              go_wp2_with fail
              refine (refNumber_any q _).mono ?_
              rintro e w4 ⟨rfl, hb4⟩
              have HB4 : Aside0 (Below w.heap.size w w4) := ⟨below_to HB3.out hb4⟩
              clear hb4
              go_wp2
              go_ret3
              rw [HRE3.out]
              exact ⟨rfl, HB4.out⟩
      · have hn61 : ¬ ((s[k]'hk).toNat : Int) = 61 := fun h => hsep (.inl (by rw [← hx]; exact UInt8.toNat_inj.1 (by rw [show UInt8.toNat 61 = 61 from rfl]; omega)))
        have hn58 : ¬ ((s[k]'hk).toNat : Int) = 58 := fun h => hsep (.inr (by rw [← hx]; exact UInt8.toNat_inj.1 (by rw [show UInt8.toNat 58 = 58 from rfl]; omega)))
        have hb61 : (((s[k]'hk).toNat : Int) != 61) = true := bne_iff_ne.2 hn61
        have hb58 : (((s[k]'hk).toNat : Int) != 58) = true := bne_iff_ne.2 hn58
        clear hn61 hn58
        have HN2 : Aside0 (∀ y ∈ L.take (k + 1), ¬ (y = 61 ∨ y = 58)) := ⟨fun y hy => by
          rw [List.take_succ_eq_append_getElem hkl, hxL] at hy
          rcases List.mem_append.1 hy with hy | hy
          · exact HN.out y hy
          · rw [List.mem_singleton.1 hy]
            exact hsep⟩
        clear hxL hat hsep hx
        go_wp2
        go_roundg (s.size - k - 1)
        case measure => have := HA.out; omega
        case rel => exact ⟨k + 1, by go_num, ⟨by omega, by omega⟩, HN2, HB⟩
    · have hall : L.take k = L := List.take_of_length_le (by have := HSL.out; omega)
      have hans := HNO.out (by have := HN.out; rwa [hall] at this)
      have HB0 : Aside0 (bareL R s (kindsL.drop 0) = ans) := ⟨hans.symm⟩
      clear hall hans HIT HNO HXS HAT2 HN
      have HLT : Aside0 (Own Kd.string 9 (wr.alloc (.cells #[.string ⟨#[103, 99]⟩, .string ⟨#[98, 105]⟩, .string ⟨#[115, 99]⟩] 9)) wr.heap.size (.slice (some ⟨wr.heap.size, 0, none⟩) 3 3) kindsL) := ⟨Kd.R_of_own (own_lit_of (enc := Value.string) wr wr.heap.size 9 kindsL (Nat.le_refl _) (by decide)) (fun _ _ => trivial)⟩
      have HLC := Aside0.mk (Kd.R_reads' HLT.out).2.2
      have HB1 : Aside0 (Below w.heap.size w (wr.alloc (.cells #[.string ⟨#[103, 99]⟩, .string ⟨#[98, 105]⟩, .string ⟨#[115, 99]⟩] 9))) := ⟨below_alloc HB.out _⟩
      obtain ⟨wo, hwo⟩ : ∃ wo : World, wo = wr := ⟨_, rfl⟩
      subst hwo
      go_wp2
      go_loopg [46] 3 (fun gk i w' => ∃ (q : Nat), i = .int .i64 (q : Int) ∧ Aside0 (q ≤ 3 ∧ gk = 3 - q) ∧ Aside0 (bareL R s (kindsL.drop q) = ans) ∧ Aside0 (Below w.heap.size w w') ∧ Aside0 (Kd.C Kd.string w' (some ⟨wo.heap.size, 0, none⟩) 3 kindsL))
      case atStart => exact ⟨0, by first | rfl | simp, ⟨by omega, rfl⟩, HB0, HB1, HLC⟩
      case round =>
        obtain ⟨q, rfl, HQ, HAN, HBQ, HC⟩ := hrel
        have hq3 : q = 0 ∨ q = 1 ∨ q = 2 ∨ q = 3 := by have := HQ.out; omega
        rcases hq3 with rfl | rfl | rfl | rfl
        · obtain ⟨adk, hak, hck⟩ := at_S (xs := kindsL) HC.out 0 (by decide)
          cases hak
          rw [add_plain] at hck
          have hck2 : wr.cell? ⟨wo.heap.size, 0, none⟩ = some (.string ⟨#[103, 99]⟩) := hck
          clear hck
          have HAN2 : Aside0 (ans = match findL ⟨#[103, 99]⟩ (looseB s) R with | none => bareL R s (kindsL.drop 1) | some v => (1, v, 0)) := ⟨by rw [← num_1]; exact HAN.out.symm⟩
          have HK := Aside0.mk (fun W => HF.out ⟨#[103, 99]⟩ s hs W)
          have hNV := HNE.out ⟨#[103, 99]⟩ (looseB s)
          obtain ⟨F1, hF1⟩ : ∃ F1, findL ⟨#[103, 99]⟩ (looseB s) R = F1 := ⟨_, rfl⟩
          rw [hF1] at HK HAN2 hNV
          clear hF1 HAN
          cases F1 with
          | none =>
            simp only [Option.getD_none] at HK HAN2
            clear hNV
            go_wp2_with fail
            refine (HK.out _).mono ?_
            rintro e w2 ⟨rfl, hb2⟩
            have HB2 : Aside0 (Below w.heap.size w w2) := ⟨below_to HBQ.out hb2⟩
            have HC2 := Aside0.mk (Kd.C_below HC.out hb2)
            clear hb2 HK
            go_wp2
            go_roundg 2
            case measure => have := HQ.out; omega
            case rel => exact ⟨1, by first | rfl | go_num, ⟨by omega, by omega⟩, ⟨HAN2.out.symm⟩, HB2, HC2⟩
          | some v =>
            simp only [Option.getD_some] at HK HAN2
            obtain ⟨hv0, hv1⟩ := hNV v rfl
            clear hNV
            go_wp2_with fail
            refine (HK.out _).mono ?_
            rintro e w2 ⟨rfl, hb2⟩
            have HB2 : Aside0 (Below w.heap.size w w2) := ⟨below_to HBQ.out hb2⟩
            clear hb2 HK
            go_wp2_with fail
            refine (refNumber_any ⟨#[103, 99]⟩ _).mono ?_
            rintro e w4 ⟨rfl, hb4⟩
            have HB4 : Aside0 (Below w.heap.size w w4) := ⟨below_to HB2.out hb4⟩
            clear hb4
            rw [num_1]
            go_wp2
            go_ret3
            rw [HAN2.out]
            exact ⟨rfl, HB4.out⟩
        · obtain ⟨adk, hak, hck⟩ := at_S (xs := kindsL) HC.out 1 (by decide)
          cases hak
          rw [add_plain] at hck
          have hck2 : wr.cell? ⟨wo.heap.size, 1, none⟩ = some (.string ⟨#[98, 105]⟩) := hck
          clear hck
          have HAN2 : Aside0 (ans = match findL ⟨#[98, 105]⟩ (looseB s) R with | none => bareL R s (kindsL.drop 2) | some v => (3, v, 0)) := ⟨by rw [← num_3]; exact HAN.out.symm⟩
          have HK := Aside0.mk (fun W => HF.out ⟨#[98, 105]⟩ s hs W)
          have hNV := HNE.out ⟨#[98, 105]⟩ (looseB s)
          obtain ⟨F1, hF1⟩ : ∃ F1, findL ⟨#[98, 105]⟩ (looseB s) R = F1 := ⟨_, rfl⟩
          rw [hF1] at HK HAN2 hNV
          clear hF1 HAN
          cases F1 with
          | none =>
            simp only [Option.getD_none] at HK HAN2
            clear hNV
            go_wp2_with fail
            refine (HK.out _).mono ?_
            rintro e w2 ⟨rfl, hb2⟩
            have HB2 : Aside0 (Below w.heap.size w w2) := ⟨below_to HBQ.out hb2⟩
            have HC2 := Aside0.mk (Kd.C_below HC.out hb2)
            clear hb2 HK
            go_wp2
            go_roundg 1
            case measure => have := HQ.out; omega
            case rel => exact ⟨2, by first | rfl | go_num, ⟨by omega, by omega⟩, ⟨HAN2.out.symm⟩, HB2, HC2⟩
          | some v =>
            simp only [Option.getD_some] at HK HAN2
            obtain ⟨hv0, hv1⟩ := hNV v rfl
            clear hNV
            go_wp2_with fail
            refine (HK.out _).mono ?_
            rintro e w2 ⟨rfl, hb2⟩
            have HB2 : Aside0 (Below w.heap.size w w2) := ⟨below_to HBQ.out hb2⟩
            clear hb2 HK
            go_wp2_with fail
            refine (refNumber_any ⟨#[98, 105]⟩ _).mono ?_
            rintro e w4 ⟨rfl, hb4⟩
            have HB4 : Aside0 (Below w.heap.size w w4) := ⟨below_to HB2.out hb4⟩
            clear hb4
            rw [num_3]
            go_wp2
            go_ret3
            rw [HAN2.out]
            exact ⟨rfl, HB4.out⟩
        · obtain ⟨adk, hak, hck⟩ := at_S (xs := kindsL) HC.out 2 (by decide)
          cases hak
          rw [add_plain] at hck
          have hck2 : wr.cell? ⟨wo.heap.size, 2, none⟩ = some (.string ⟨#[115, 99]⟩) := hck
          clear hck
          have HAN2 : Aside0 (ans = match findL ⟨#[115, 99]⟩ (looseB s) R with | none => bareL R s (kindsL.drop 3) | some v => (2, v, 0)) := ⟨by rw [← num_2]; exact HAN.out.symm⟩
          have HK := Aside0.mk (fun W => HF.out ⟨#[115, 99]⟩ s hs W)
          have hNV := HNE.out ⟨#[115, 99]⟩ (looseB s)
          obtain ⟨F1, hF1⟩ : ∃ F1, findL ⟨#[115, 99]⟩ (looseB s) R = F1 := ⟨_, rfl⟩
          rw [hF1] at HK HAN2 hNV
          clear hF1 HAN
          cases F1 with
          | none =>
            simp only [Option.getD_none] at HK HAN2
            clear hNV
            go_wp2_with fail
            refine (HK.out _).mono ?_
            rintro e w2 ⟨rfl, hb2⟩
            have HB2 : Aside0 (Below w.heap.size w w2) := ⟨below_to HBQ.out hb2⟩
            have HC2 := Aside0.mk (Kd.C_below HC.out hb2)
            clear hb2 HK
            go_wp2
            go_roundg 0
            case measure => have := HQ.out; omega
            case rel => exact ⟨3, by first | rfl | go_num, ⟨by omega, by omega⟩, ⟨HAN2.out.symm⟩, HB2, HC2⟩
          | some v =>
            simp only [Option.getD_some] at HK HAN2
            obtain ⟨hv0, hv1⟩ := hNV v rfl
            clear hNV
            go_wp2_with fail
            refine (HK.out _).mono ?_
            rintro e w2 ⟨rfl, hb2⟩
            have HB2 : Aside0 (Below w.heap.size w w2) := ⟨below_to HBQ.out hb2⟩
            clear hb2 HK
            go_wp2_with fail
            refine (refNumber_any ⟨#[115, 99]⟩ _).mono ?_
            rintro e w4 ⟨rfl, hb4⟩
            have HB4 : Aside0 (Below w.heap.size w w4) := ⟨below_to HB2.out hb4⟩
            clear hb4
            rw [num_2]
            go_wp2
            go_ret3
            rw [HAN2.out]
            exact ⟨rfl, HB4.out⟩
        · go_wp2
          go_ret3
          rw [← HAN.out]
          exact ⟨rfl, HBQ.out⟩

end Go.Proofs.YtooehjbbphokbaaDoor
