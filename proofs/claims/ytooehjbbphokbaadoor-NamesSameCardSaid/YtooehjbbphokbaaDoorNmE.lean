/- Walk: names.Resolve, where strings.IndexAny answers as it should. -/
import Derived.Test.YtooehjbbphokbaaDoorNmD
import Derived.OwnWalk
namespace Go.Proofs.YtooehjbbphokbaaDoor
set_option linter.unusedVariables false
set_option linter.unusedSimpArgs false
open Go.RowKit Go.Proofs.YtooehjbbphokbaaDoorW.PrintWords Go.Proofs.YtooehjbbphokbaaDoorW.PrintLast Go.Proofs.YtooehjbbphokbaaDoorW.PrintMore

def idxI (l : List UInt8) : Int := match idxL l with
  | some i => (i : Int)
  | none => -1
theorem idxL_lt : ∀ (l : List UInt8) (i : Nat), idxL l = some i → i < l.length
  | [], i, h => by cases h
  | b :: l, i, h => by
    unfold idxL at h
    split at h
    · cases h
      simp
    · cases hl : idxL l with
      | none => rw [hl] at h; cases h
      | some j =>
        rw [hl] at h
        cases h
        have := idxL_lt l j hl
        simp only [List.length_cons]
        omega
theorem number_any (k : ByteArray) (w : World) : Calls Tryd.prog 49 #[.string k] w fun e w' => e = .returned (.int .i64 (numB k)) ∧ Below w.heap.size w w' := by
  refine (Go.Proofs.YtooehjbbphokbaaDoor.PNamesBack.names_number.calls k (numB k) w ?_).mono ?_
  · unfold Go.Proofs.YtooehjbbphokbaaDoor.PNamesBack.names_number.f numB
    split
    · rfl
    · split <;> rfl
  · rintro e w' ⟨rfl, hd⟩
    exact ⟨rfl, hd.below⟩
theorem idx3_0 (W : World) : (Instr.index 65 (.agg #[.string ⟨#[103, 99]⟩, .string ⟨#[98, 105]⟩, .string ⟨#[115, 99]⟩]) (.int .i64 0)).run Tryd.prog W = .ok (.string ⟨#[103, 99]⟩) W := by kernel_rfl
theorem idx3_1 (W : World) : (Instr.index 65 (.agg #[.string ⟨#[103, 99]⟩, .string ⟨#[98, 105]⟩, .string ⟨#[115, 99]⟩]) (.int .i64 1)).run Tryd.prog W = .ok (.string ⟨#[98, 105]⟩) W := by kernel_rfl
theorem idx3_2 (W : World) : (Instr.index 65 (.agg #[.string ⟨#[103, 99]⟩, .string ⟨#[98, 105]⟩, .string ⟨#[115, 99]⟩]) (.int .i64 2)).run Tryd.prog W = .ok (.string ⟨#[115, 99]⟩) W := by kernel_rfl
def IndexIs (s : ByteArray) : Prop := ∀ W : World, Calls Tryd.prog 47 #[.string s, .string ⟨#[61, 58]⟩] W fun e w' => e = .returned (.int .i64 (idxI s.data.toList)) ∧ Below W.heap.size W w'
theorem num_1 : numB ⟨#[103, 99]⟩ = 1 := by unfold numB; rw [if_pos (by rw [Lib.toList_data])]
theorem num_3 : numB ⟨#[98, 105]⟩ = 3 := by unfold numB; rw [if_neg (by rw [Lib.toList_data]; decide), if_neg (by rw [Lib.toList_data]; decide)]
theorem num_2 : numB ⟨#[115, 99]⟩ = 2 := by unfold numB; rw [if_neg (by rw [Lib.toList_data]; decide), if_pos (by rw [Lib.toList_data])]
theorem getD_some (v : ByteArray) : (some v : Option ByteArray).getD ByteArray.empty = v := rfl

set_option maxHeartbeats 4000000 in
set_option maxRecDepth 100000 in
theorem resolve_any (b : ByteArray) (hal : AliasIs b) (s : ByteArray) (m : Int) (w : World) (hm : MaxIs w m) (hs : s.size < 140737488355328) (hix : IndexIs s) :
    Calls Tryd.prog 28 #[.string s] w fun e w' => e = .returned (.tuple #[.int .i64 (resolveL (rowsB b) s).1, .string (resolveL (rowsB b) s).2.1, .int .i64 (resolveL (rowsB b) s).2.2]) ∧ Below w.heap.size w w' := by
  have HF := Aside0.mk (fun kind (t : ByteArray) (ht : t.size < 140737488355328) W hm => find_any b hal kind t m W hm ht)
  have HI := Aside0.mk hix
  have HM := Aside0.mk hm
  have HXS : ∀ i j, (s.extract i j).size ≤ s.size := fun i j => by rw [ByteArray.size_extract]; omega
  clear hal hm hix
  have HID : Aside0 (idxI s.data.toList = match idxL s.data.toList with | some i => (i : Int) | none => -1) := ⟨rfl⟩
  have HRE : Aside0 (resolveL (rowsB b) s = match idxL s.data.toList with | some i => keyL (rowsB b) (s.extract 0 i) (s.extract (i + 1) s.size) | none => bareL (rowsB b) s kindsL) := ⟨rfl⟩
  have hlt := idxL_lt s.data.toList
  rw [← Lib.size_eq s] at hlt
  obtain ⟨ans, hans⟩ : ∃ ans, resolveL (rowsB b) s = ans := ⟨_, rfl⟩
  rw [hans] at HRE ⊢
  obtain ⟨R, hR⟩ : ∃ R, rowsB b = R := ⟨_, rfl⟩
  rw [hR] at HRE HF
  clear hans hR
  cases hix : idxL s.data.toList with
  | some i =>
    have hi := hlt i hix
    have HIX := Aside0.mk hix
    rw [hix] at HID HRE
    simp only at HID HRE
    clear hix hlt
    have HK := Aside0.mk (fun W hm => HF.out ⟨#[112, 114]⟩ (s.extract 0 i) (by have := HXS 0 i; omega) W hm)
    have HRE2 : Aside0 (ans = match findL ⟨#[112, 114]⟩ (looseB (s.extract 0 i)) R with | none => errN | some k => valL R k (s.extract (i + 1) s.size)) := ⟨HRE.out⟩
    have HV := Aside0.mk (fun k W hm => HF.out k (s.extract (i + 1) s.size) (by have := HXS (i + 1) s.size; omega) W hm)
    obtain ⟨t1, ht1⟩ : ∃ t1, s.extract 0 i = t1 := ⟨_, rfl⟩
    obtain ⟨t2, ht2⟩ : ∃ t2, s.extract (i + 1) s.size = t2 := ⟨_, rfl⟩
    have e1 : ((i : Int)).toNat = i := rfl
    have e2 : ((i : Int) + 1).toNat = i + 1 := rfl
    rw [ht1] at HK HRE2
    rw [ht2] at HV HRE2
    clear HRE HXS
    obtain ⟨F1, hF1⟩ : ∃ F1, findL ⟨#[112, 114]⟩ (looseB t1) R = F1 := ⟨_, rfl⟩
    rw [hF1] at HK HRE2
    clear hF1
    cases F1 with
    | none =>
      simp only [Option.getD_none, Option.isSome_none] at HK HRE2
      go_enter Tryd.func28, Tryd.ntmps28
      go_wp2_with fail
      refine (HI.out _).mono ?_
      rintro e w1 ⟨rfl, hb1⟩
      have HB1 := Aside0.mk hb1
      rw [HID.out]
      clear hb1
      go_wp2_with fail
      refine (HK.out _ (HM.out.below HB1.out)).mono ?_
      rintro e w2 ⟨rfl, hb2⟩
      have HB2 : Aside0 (Below w.heap.size w w2) := ⟨below_to HB1.out hb2⟩
      clear hb2 HK HV
      go_wp2
      go_ret3
      rw [HRE2.out]
      exact ⟨rfl, HB2.out⟩
    | some k =>
      simp only [Option.getD_some, Option.isSome_some] at HK HRE2
      have HVK := Aside0.mk (fun W hm => HV.out k W hm)
      have HRE3 : Aside0 (ans = match findL k (looseB t2) R with | none => errV | some v => (numB k, v, 0)) := ⟨HRE2.out⟩
      clear HV HRE2
      obtain ⟨F2, hF2⟩ : ∃ F2, findL k (looseB t2) R = F2 := ⟨_, rfl⟩
      rw [hF2] at HVK HRE3
      clear hF2
      cases F2 with
      | none =>
        simp only [Option.getD_none, Option.isSome_none] at HVK HRE3
        go_enter Tryd.func28, Tryd.ntmps28
        go_wp2_with fail
        refine (HI.out _).mono ?_
        rintro e w1 ⟨rfl, hb1⟩
        have HB1 := Aside0.mk hb1
        rw [HID.out]
        clear hb1
        go_wp2_with fail
        refine (HK.out _ (HM.out.below HB1.out)).mono ?_
        rintro e w2 ⟨rfl, hb2⟩
        have HB2 : Aside0 (Below w.heap.size w w2) := ⟨below_to HB1.out hb2⟩
        clear hb2 HK
        go_wp2_with fail
        refine (HVK.out _ (HM.out.below HB2.out)).mono ?_
        rintro e w3 ⟨rfl, hb3⟩
        have HB3 : Aside0 (Below w.heap.size w w3) := ⟨below_to HB2.out hb3⟩
        clear hb3 HVK
        go_wp2
        go_ret3
        rw [HRE3.out]
        exact ⟨rfl, HB3.out⟩
      | some v =>
        simp only [Option.getD_some, Option.isSome_some] at HVK HRE3
        go_enter Tryd.func28, Tryd.ntmps28
        go_wp2_with fail
        refine (HI.out _).mono ?_
        rintro e w1 ⟨rfl, hb1⟩
        have HB1 := Aside0.mk hb1
        rw [HID.out]
        clear hb1
        go_wp2_with fail
        refine (HK.out _ (HM.out.below HB1.out)).mono ?_
        rintro e w2 ⟨rfl, hb2⟩
        have HB2 : Aside0 (Below w.heap.size w w2) := ⟨below_to HB1.out hb2⟩
        clear hb2 HK
        go_wp2_with fail
        refine (HVK.out _ (HM.out.below HB2.out)).mono ?_
        rintro e w3 ⟨rfl, hb3⟩
        have HB3 : Aside0 (Below w.heap.size w w3) := ⟨below_to HB2.out hb3⟩
        clear hb3 HVK
        go_wp2_with fail
        refine (number_any k _).mono ?_
        rintro e w4 ⟨rfl, hb4⟩
        have HB4 : Aside0 (Below w.heap.size w w4) := ⟨below_to HB3.out hb4⟩
        clear hb4
        go_wp2
        go_ret3
        rw [HRE3.out]
        exact ⟨rfl, HB4.out⟩
  | none =>
    rw [hix] at HID HRE
    simp only at HID HRE
    clear hix hlt HXS
    have HB0 : Aside0 (bareL R s (kindsL.drop 0) = ans) := ⟨HRE.out.symm⟩
    clear HRE
    go_enter Tryd.func28, Tryd.ntmps28
    go_wp2_with fail
    refine (HI.out _).mono ?_
    rintro e w1 ⟨rfl, hb1⟩
    have HB1 := Aside0.mk hb1
    rw [HID.out]
    clear hb1
    go_wp2
    go_loopg [41] 3 (fun gk i w' => ∃ (q : Nat), i = .int .i64 (q : Int) ∧ Aside0 (q ≤ 3 ∧ gk = 3 - q) ∧ Aside0 (bareL R s (kindsL.drop q) = ans) ∧ Aside0 (Below w.heap.size w w'))
    case atStart => exact ⟨0, by first | rfl | simp, ⟨by omega, rfl⟩, HB0, HB1⟩
    case round =>
      obtain ⟨q, rfl, HQ, HAN, HB⟩ := hrel
      have hq3 : q = 0 ∨ q = 1 ∨ q = 2 ∨ q = 3 := by have := HQ.out; omega
      rcases hq3 with rfl | rfl | rfl | rfl
      · have hi3 := idx3_0 wr
        have HAN2 : Aside0 (ans = match findL ⟨#[103, 99]⟩ (looseB s) R with | none => bareL R s (kindsL.drop 1) | some v => (1, v, 0)) := ⟨by rw [← num_1]; exact HAN.out.symm⟩
        have HK := Aside0.mk (fun W hm => HF.out ⟨#[103, 99]⟩ s hs W hm)
        obtain ⟨F1, hF1⟩ : ∃ F1, findL ⟨#[103, 99]⟩ (looseB s) R = F1 := ⟨_, rfl⟩
        rw [hF1] at HK HAN2
        clear hF1 HAN
        cases F1 with
        | none =>
          simp only [Option.getD_none, Option.isSome_none] at HK HAN2
          go_wp2_with fail
          refine (HK.out _ (HM.out.below HB.out)).mono ?_
          rintro e w2 ⟨rfl, hb2⟩
          have HB2 : Aside0 (Below w.heap.size w w2) := ⟨below_to HB.out hb2⟩
          clear hb2 HK
          go_wp2
          go_roundg 2
          case measure => have := HQ.out; omega
          case rel => exact ⟨1, by first | rfl | go_num, ⟨by omega, by omega⟩, ⟨HAN2.out.symm⟩, HB2⟩
        | some v =>
          simp only [Option.getD_some, Option.isSome_some] at HK HAN2
          go_wp2_with fail
          refine (HK.out _ (HM.out.below HB.out)).mono ?_
          rintro e w2 ⟨rfl, hb2⟩
          have HB2 : Aside0 (Below w.heap.size w w2) := ⟨below_to HB.out hb2⟩
          clear hb2 HK
          go_wp2_with fail
          refine (number_any ⟨#[103, 99]⟩ _).mono ?_
          rintro e w4 ⟨rfl, hb4⟩
          have HB4 : Aside0 (Below w.heap.size w w4) := ⟨below_to HB2.out hb4⟩
          clear hb4
          rw [num_1]
          go_wp2
          go_ret3
          rw [HAN2.out]
          exact ⟨rfl, HB4.out⟩
      · have hi3 := idx3_1 wr
        have HAN2 : Aside0 (ans = match findL ⟨#[98, 105]⟩ (looseB s) R with | none => bareL R s (kindsL.drop 2) | some v => (3, v, 0)) := ⟨by rw [← num_3]; exact HAN.out.symm⟩
        have HK := Aside0.mk (fun W hm => HF.out ⟨#[98, 105]⟩ s hs W hm)
        obtain ⟨F1, hF1⟩ : ∃ F1, findL ⟨#[98, 105]⟩ (looseB s) R = F1 := ⟨_, rfl⟩
        rw [hF1] at HK HAN2
        clear hF1 HAN
        cases F1 with
        | none =>
          simp only [Option.getD_none, Option.isSome_none] at HK HAN2
          go_wp2_with fail
          refine (HK.out _ (HM.out.below HB.out)).mono ?_
          rintro e w2 ⟨rfl, hb2⟩
          have HB2 : Aside0 (Below w.heap.size w w2) := ⟨below_to HB.out hb2⟩
          clear hb2 HK
          go_wp2
          go_roundg 1
          case measure => have := HQ.out; omega
          case rel => exact ⟨2, by first | rfl | go_num, ⟨by omega, by omega⟩, ⟨HAN2.out.symm⟩, HB2⟩
        | some v =>
          simp only [Option.getD_some, Option.isSome_some] at HK HAN2
          go_wp2_with fail
          refine (HK.out _ (HM.out.below HB.out)).mono ?_
          rintro e w2 ⟨rfl, hb2⟩
          have HB2 : Aside0 (Below w.heap.size w w2) := ⟨below_to HB.out hb2⟩
          clear hb2 HK
          go_wp2_with fail
          refine (number_any ⟨#[98, 105]⟩ _).mono ?_
          rintro e w4 ⟨rfl, hb4⟩
          have HB4 : Aside0 (Below w.heap.size w w4) := ⟨below_to HB2.out hb4⟩
          clear hb4
          rw [num_3]
          go_wp2
          go_ret3
          rw [HAN2.out]
          exact ⟨rfl, HB4.out⟩
      · have hi3 := idx3_2 wr
        have HAN2 : Aside0 (ans = match findL ⟨#[115, 99]⟩ (looseB s) R with | none => bareL R s (kindsL.drop 3) | some v => (2, v, 0)) := ⟨by rw [← num_2]; exact HAN.out.symm⟩
        have HK := Aside0.mk (fun W hm => HF.out ⟨#[115, 99]⟩ s hs W hm)
        obtain ⟨F1, hF1⟩ : ∃ F1, findL ⟨#[115, 99]⟩ (looseB s) R = F1 := ⟨_, rfl⟩
        rw [hF1] at HK HAN2
        clear hF1 HAN
        cases F1 with
        | none =>
          simp only [Option.getD_none, Option.isSome_none] at HK HAN2
          go_wp2_with fail
          refine (HK.out _ (HM.out.below HB.out)).mono ?_
          rintro e w2 ⟨rfl, hb2⟩
          have HB2 : Aside0 (Below w.heap.size w w2) := ⟨below_to HB.out hb2⟩
          clear hb2 HK
          go_wp2
          go_roundg 0
          case measure => have := HQ.out; omega
          case rel => exact ⟨3, by first | rfl | go_num, ⟨by omega, by omega⟩, ⟨HAN2.out.symm⟩, HB2⟩
        | some v =>
          simp only [Option.getD_some, Option.isSome_some] at HK HAN2
          go_wp2_with fail
          refine (HK.out _ (HM.out.below HB.out)).mono ?_
          rintro e w2 ⟨rfl, hb2⟩
          have HB2 : Aside0 (Below w.heap.size w w2) := ⟨below_to HB.out hb2⟩
          clear hb2 HK
          go_wp2_with fail
          refine (number_any ⟨#[115, 99]⟩ _).mono ?_
          rintro e w4 ⟨rfl, hb4⟩
          have HB4 : Aside0 (Below w.heap.size w w4) := ⟨below_to HB2.out hb4⟩
          clear hb4
          rw [num_2]
          go_wp2
          go_ret3
          rw [HAN2.out]
          exact ⟨rfl, HB4.out⟩
      · go_wp2
        go_ret3
        rw [← HAN.out]
        exact ⟨rfl, HB.out⟩

end Go.Proofs.YtooehjbbphokbaaDoor
