/- NmE, NmF, NmX, NmY, TkR9, TkRA, TkRB. -/
import Derived.OwnWalk
import Derived.Laws.RangeAny
import Derived.Laws.RangeString
import Derived.Laws.Runes
import Derived.LoopTactic
import Derived.BigQuiet
import Derived.Lib.OthersKept
import Derived.Lib.RuneCount
import Derived.Deep.RegionWith
import Derived.Test.YtkipjalfgdfaiaaGreatDoorSJ3
namespace Go.Proofs.YtkipjalfgdfaiaaGreatDoor
set_option linter.unusedVariables false
set_option linter.unusedSimpArgs false
open Go.RowKit Go.Proofs.YtkipjalfgdfaiaaGreatDoorW.PrintWords Go.Proofs.YtkipjalfgdfaiaaGreatDoorW.PrintLast Go.Proofs.YtkipjalfgdfaiaaGreatDoorW.PrintMore

def idxI (l : List UInt8) : Int := match idxL l with
  | some i => (i : Int)
  | none => -1
theorem idxL_lt : ∀ (l : List UInt8) (i : Nat), idxL l = some i → i < l.length
  | [], i, h => by cases h
  | b :: l, i, h => by
    unfold idxL at h
    split at h
    · cases h
      simp
    · cases hl : idxL l with
      | none => rw [hl] at h; cases h
      | some j =>
        rw [hl] at h
        cases h
        have := idxL_lt l j hl
        simp only [List.length_cons]
        omega
theorem number_any (k : ByteArray) (w : World) : Calls Tryz.prog 144 #[.string k] w fun e w' => e = .returned (.int .i64 (numB k)) ∧ Below w.heap.size w w' := by
  refine (Go.Proofs.YtkipjalfgdfaiaaGreatDoor.PNamesBack.names_number.calls k (numB k) w ?_).mono ?_
  · unfold Go.Proofs.YtkipjalfgdfaiaaGreatDoor.PNamesBack.names_number.f numB
    split
    · rfl
    · split <;> rfl
  · rintro e w' ⟨rfl, hd⟩
    exact ⟨rfl, hd.below⟩
theorem idx3_0 (W : World) : (Instr.index 166 (.agg #[.string ⟨#[103, 99]⟩, .string ⟨#[98, 105]⟩, .string ⟨#[115, 99]⟩]) (.int .i64 0)).run Tryz.prog W = .ok (.string ⟨#[103, 99]⟩) W := by kernel_rfl
theorem idx3_1 (W : World) : (Instr.index 166 (.agg #[.string ⟨#[103, 99]⟩, .string ⟨#[98, 105]⟩, .string ⟨#[115, 99]⟩]) (.int .i64 1)).run Tryz.prog W = .ok (.string ⟨#[98, 105]⟩) W := by kernel_rfl
theorem idx3_2 (W : World) : (Instr.index 166 (.agg #[.string ⟨#[103, 99]⟩, .string ⟨#[98, 105]⟩, .string ⟨#[115, 99]⟩]) (.int .i64 2)).run Tryz.prog W = .ok (.string ⟨#[115, 99]⟩) W := by kernel_rfl
def IndexIs (s : ByteArray) : Prop := ∀ W : World, Calls Tryz.prog 142 #[.string s, .string ⟨#[61, 58]⟩] W fun e w' => e = .returned (.int .i64 (idxI s.data.toList)) ∧ Below W.heap.size W w'
theorem num_1 : numB ⟨#[103, 99]⟩ = 1 := by unfold numB; rw [if_pos (by rw [Lib.toList_data])]
theorem num_3 : numB ⟨#[98, 105]⟩ = 3 := by unfold numB; rw [if_neg (by rw [Lib.toList_data]; decide), if_neg (by rw [Lib.toList_data]; decide)]
theorem num_2 : numB ⟨#[115, 99]⟩ = 2 := by unfold numB; rw [if_neg (by rw [Lib.toList_data]; decide), if_pos (by rw [Lib.toList_data])]
set_option maxHeartbeats 4000000 in
set_option maxRecDepth 100000 in
theorem resolve_any (b : ByteArray) (hal : AliasIs b) (s : ByteArray) (m : Int) (w : World) (hm : MaxIs w m) (hs : s.size < 140737488355328) (hix : IndexIs s) :
    Calls Tryz.prog 102 #[.string s] w fun e w' => e = .returned (.tuple #[.int .i64 (resolveL (rowsB b) s).1, .string (resolveL (rowsB b) s).2.1, .int .i64 (resolveL (rowsB b) s).2.2]) ∧ Below w.heap.size w w' := by
  have HF := Aside0.mk (fun kind (t : ByteArray) (ht : t.size < 140737488355328) W hm => find_any b hal kind t m W hm ht)
  have HI := Aside0.mk hix
  have HM := Aside0.mk hm
  have HXS : ∀ i j, (s.extract i j).size ≤ s.size := fun i j => by rw [ByteArray.size_extract]; omega
  clear hal hm hix
  have HID : Aside0 (idxI s.data.toList = match idxL s.data.toList with | some i => (i : Int) | none => -1) := ⟨rfl⟩
  have HRE : Aside0 (resolveL (rowsB b) s = match idxL s.data.toList with | some i => keyL (rowsB b) (s.extract 0 i) (s.extract (i + 1) s.size) | none => bareL (rowsB b) s kindsL) := ⟨rfl⟩
  have hlt := idxL_lt s.data.toList
  rw [← Lib.size_eq s] at hlt
  obtain ⟨ans, hans⟩ : ∃ ans, resolveL (rowsB b) s = ans := ⟨_, rfl⟩
  rw [hans] at HRE ⊢
  obtain ⟨R, hR⟩ : ∃ R, rowsB b = R := ⟨_, rfl⟩
  rw [hR] at HRE HF
  clear hans hR
  cases hix : idxL s.data.toList with
  | some i =>
    have hi := hlt i hix
    have HIX := Aside0.mk hix
    rw [hix] at HID HRE
    simp only at HID HRE
    clear hix hlt
    have HK := Aside0.mk (fun W hm => HF.out ⟨#[112, 114]⟩ (s.extract 0 i) (by have := HXS 0 i; omega) W hm)
    have HRE2 : Aside0 (ans = match findL ⟨#[112, 114]⟩ (looseB (s.extract 0 i)) R with | none => errN | some k => valL R k (s.extract (i + 1) s.size)) := ⟨HRE.out⟩
    have HV := Aside0.mk (fun k W hm => HF.out k (s.extract (i + 1) s.size) (by have := HXS (i + 1) s.size; omega) W hm)
    obtain ⟨t1, ht1⟩ : ∃ t1, s.extract 0 i = t1 := ⟨_, rfl⟩
    obtain ⟨t2, ht2⟩ : ∃ t2, s.extract (i + 1) s.size = t2 := ⟨_, rfl⟩
    have e1 : ((i : Int)).toNat = i := rfl
    have e2 : ((i : Int) + 1).toNat = i + 1 := rfl
    rw [ht1] at HK HRE2
    rw [ht2] at HV HRE2
    clear HRE HXS
    obtain ⟨F1, hF1⟩ : ∃ F1, findL ⟨#[112, 114]⟩ (looseB t1) R = F1 := ⟨_, rfl⟩
    rw [hF1] at HK HRE2
    clear hF1
    cases F1 with
    | none =>
      simp only [Option.getD_none, Option.isSome_none] at HK HRE2
      go_enter Tryz.func102, Tryz.ntmps102
      go_wp2_with fail
      refine (HI.out _).mono ?_
      rintro e w1 ⟨rfl, hb1⟩
      have HB1 := Aside0.mk hb1
      rw [HID.out]
      clear hb1
      go_wp2_with fail
      refine (HK.out _ (HM.out.below HB1.out)).mono ?_
      rintro e w2 ⟨rfl, hb2⟩
      have HB2 : Aside0 (Below w.heap.size w w2) := ⟨below_to HB1.out hb2⟩
      clear hb2 HK HV
      go_wp2
      go_ret3
      rw [HRE2.out]
      exact ⟨rfl, HB2.out⟩
    | some k =>
      simp only [Option.getD_some, Option.isSome_some] at HK HRE2
      have HVK := Aside0.mk (fun W hm => HV.out k W hm)
      have HRE3 : Aside0 (ans = match findL k (looseB t2) R with | none => errV | some v => (numB k, v, 0)) := ⟨HRE2.out⟩
      clear HV HRE2
      obtain ⟨F2, hF2⟩ : ∃ F2, findL k (looseB t2) R = F2 := ⟨_, rfl⟩
      rw [hF2] at HVK HRE3
      clear hF2
      cases F2 with
      | none =>
        simp only [Option.getD_none, Option.isSome_none] at HVK HRE3
        go_enter Tryz.func102, Tryz.ntmps102
        go_wp2_with fail
        refine (HI.out _).mono ?_
        rintro e w1 ⟨rfl, hb1⟩
        have HB1 := Aside0.mk hb1
        rw [HID.out]
        clear hb1
        go_wp2_with fail
        refine (HK.out _ (HM.out.below HB1.out)).mono ?_
        rintro e w2 ⟨rfl, hb2⟩
        have HB2 : Aside0 (Below w.heap.size w w2) := ⟨below_to HB1.out hb2⟩
        clear hb2 HK
        go_wp2_with fail
        refine (HVK.out _ (HM.out.below HB2.out)).mono ?_
        rintro e w3 ⟨rfl, hb3⟩
        have HB3 : Aside0 (Below w.heap.size w w3) := ⟨below_to HB2.out hb3⟩
        clear hb3 HVK
        go_wp2
        go_ret3
        rw [HRE3.out]
        exact ⟨rfl, HB3.out⟩
      | some v =>
        simp only [Option.getD_some, Option.isSome_some] at HVK HRE3
        go_enter Tryz.func102, Tryz.ntmps102
        go_wp2_with fail
        refine (HI.out _).mono ?_
        rintro e w1 ⟨rfl, hb1⟩
        have HB1 := Aside0.mk hb1
        rw [HID.out]
        clear hb1
        go_wp2_with fail
        refine (HK.out _ (HM.out.below HB1.out)).mono ?_
        rintro e w2 ⟨rfl, hb2⟩
        have HB2 : Aside0 (Below w.heap.size w w2) := ⟨below_to HB1.out hb2⟩
        clear hb2 HK
        go_wp2_with fail
        refine (HVK.out _ (HM.out.below HB2.out)).mono ?_
        rintro e w3 ⟨rfl, hb3⟩
        have HB3 : Aside0 (Below w.heap.size w w3) := ⟨below_to HB2.out hb3⟩
        clear hb3 HVK
        go_wp2_with fail
        refine (number_any k _).mono ?_
        rintro e w4 ⟨rfl, hb4⟩
        have HB4 : Aside0 (Below w.heap.size w w4) := ⟨below_to HB3.out hb4⟩
        clear hb4
        go_wp2
        go_ret3
        rw [HRE3.out]
        exact ⟨rfl, HB4.out⟩
  | none =>
    rw [hix] at HID HRE
    simp only at HID HRE
    clear hix hlt HXS
    have HB0 : Aside0 (bareL R s (kindsL.drop 0) = ans) := ⟨HRE.out.symm⟩
    clear HRE
    go_enter Tryz.func102, Tryz.ntmps102
    go_wp2_with fail
    refine (HI.out _).mono ?_
    rintro e w1 ⟨rfl, hb1⟩
    have HB1 := Aside0.mk hb1
    rw [HID.out]
    clear hb1
    go_wp2
    go_loopg [41] 3 (fun gk i w' => ∃ (q : Nat), i = .int .i64 (q : Int) ∧ Aside0 (q ≤ 3 ∧ gk = 3 - q) ∧ Aside0 (bareL R s (kindsL.drop q) = ans) ∧ Aside0 (Below w.heap.size w w'))
    case atStart => exact ⟨0, by first | rfl | simp, ⟨by omega, rfl⟩, HB0, HB1⟩
    case round =>
      obtain ⟨q, rfl, HQ, HAN, HB⟩ := hrel
      have hq3 : q = 0 ∨ q = 1 ∨ q = 2 ∨ q = 3 := by have := HQ.out; omega
      rcases hq3 with rfl | rfl | rfl | rfl
      · have hi3 := idx3_0 wr
        have HAN2 : Aside0 (ans = match findL ⟨#[103, 99]⟩ (looseB s) R with | none => bareL R s (kindsL.drop 1) | some v => (1, v, 0)) := ⟨by rw [← num_1]; exact HAN.out.symm⟩
        have HK := Aside0.mk (fun W hm => HF.out ⟨#[103, 99]⟩ s hs W hm)
        obtain ⟨F1, hF1⟩ : ∃ F1, findL ⟨#[103, 99]⟩ (looseB s) R = F1 := ⟨_, rfl⟩
        rw [hF1] at HK HAN2
        clear hF1 HAN
        cases F1 with
        | none =>
          simp only [Option.getD_none, Option.isSome_none] at HK HAN2
          go_wp2_with fail
          refine (HK.out _ (HM.out.below HB.out)).mono ?_
          rintro e w2 ⟨rfl, hb2⟩
          have HB2 : Aside0 (Below w.heap.size w w2) := ⟨below_to HB.out hb2⟩
          clear hb2 HK
          go_wp2
          go_roundg 2
          case measure => have := HQ.out; omega
          case rel => exact ⟨1, by first | rfl | go_num, ⟨by omega, by omega⟩, ⟨HAN2.out.symm⟩, HB2⟩
        | some v =>
          simp only [Option.getD_some, Option.isSome_some] at HK HAN2
          go_wp2_with fail
          refine (HK.out _ (HM.out.below HB.out)).mono ?_
          rintro e w2 ⟨rfl, hb2⟩
          have HB2 : Aside0 (Below w.heap.size w w2) := ⟨below_to HB.out hb2⟩
          clear hb2 HK
          go_wp2_with fail
          refine (number_any ⟨#[103, 99]⟩ _).mono ?_
          rintro e w4 ⟨rfl, hb4⟩
          have HB4 : Aside0 (Below w.heap.size w w4) := ⟨below_to HB2.out hb4⟩
          clear hb4
          rw [num_1]
          go_wp2
          go_ret3
          rw [HAN2.out]
          exact ⟨rfl, HB4.out⟩
      · have hi3 := idx3_1 wr
        have HAN2 : Aside0 (ans = match findL ⟨#[98, 105]⟩ (looseB s) R with | none => bareL R s (kindsL.drop 2) | some v => (3, v, 0)) := ⟨by rw [← num_3]; exact HAN.out.symm⟩
        have HK := Aside0.mk (fun W hm => HF.out ⟨#[98, 105]⟩ s hs W hm)
        obtain ⟨F1, hF1⟩ : ∃ F1, findL ⟨#[98, 105]⟩ (looseB s) R = F1 := ⟨_, rfl⟩
        rw [hF1] at HK HAN2
        clear hF1 HAN
        cases F1 with
        | none =>
          simp only [Option.getD_none, Option.isSome_none] at HK HAN2
          go_wp2_with fail
          refine (HK.out _ (HM.out.below HB.out)).mono ?_
          rintro e w2 ⟨rfl, hb2⟩
          have HB2 : Aside0 (Below w.heap.size w w2) := ⟨below_to HB.out hb2⟩
          clear hb2 HK
          go_wp2
          go_roundg 1
          case measure => have := HQ.out; omega
          case rel => exact ⟨2, by first | rfl | go_num, ⟨by omega, by omega⟩, ⟨HAN2.out.symm⟩, HB2⟩
        | some v =>
          simp only [Option.getD_some, Option.isSome_some] at HK HAN2
          go_wp2_with fail
          refine (HK.out _ (HM.out.below HB.out)).mono ?_
          rintro e w2 ⟨rfl, hb2⟩
          have HB2 : Aside0 (Below w.heap.size w w2) := ⟨below_to HB.out hb2⟩
          clear hb2 HK
          go_wp2_with fail
          refine (number_any ⟨#[98, 105]⟩ _).mono ?_
          rintro e w4 ⟨rfl, hb4⟩
          have HB4 : Aside0 (Below w.heap.size w w4) := ⟨below_to HB2.out hb4⟩
          clear hb4
          rw [num_3]
          go_wp2
          go_ret3
          rw [HAN2.out]
          exact ⟨rfl, HB4.out⟩
      · have hi3 := idx3_2 wr
        have HAN2 : Aside0 (ans = match findL ⟨#[115, 99]⟩ (looseB s) R with | none => bareL R s (kindsL.drop 3) | some v => (2, v, 0)) := ⟨by rw [← num_2]; exact HAN.out.symm⟩
        have HK := Aside0.mk (fun W hm => HF.out ⟨#[115, 99]⟩ s hs W hm)
        obtain ⟨F1, hF1⟩ : ∃ F1, findL ⟨#[115, 99]⟩ (looseB s) R = F1 := ⟨_, rfl⟩
        rw [hF1] at HK HAN2
        clear hF1 HAN
        cases F1 with
        | none =>
          simp only [Option.getD_none, Option.isSome_none] at HK HAN2
          go_wp2_with fail
          refine (HK.out _ (HM.out.below HB.out)).mono ?_
          rintro e w2 ⟨rfl, hb2⟩
          have HB2 : Aside0 (Below w.heap.size w w2) := ⟨below_to HB.out hb2⟩
          clear hb2 HK
          go_wp2
          go_roundg 0
          case measure => have := HQ.out; omega
          case rel => exact ⟨3, by first | rfl | go_num, ⟨by omega, by omega⟩, ⟨HAN2.out.symm⟩, HB2⟩
        | some v =>
          simp only [Option.getD_some, Option.isSome_some] at HK HAN2
          go_wp2_with fail
          refine (HK.out _ (HM.out.below HB.out)).mono ?_
          rintro e w2 ⟨rfl, hb2⟩
          have HB2 : Aside0 (Below w.heap.size w w2) := ⟨below_to HB.out hb2⟩
          clear hb2 HK
          go_wp2_with fail
          refine (number_any ⟨#[115, 99]⟩ _).mono ?_
          rintro e w4 ⟨rfl, hb4⟩
          have HB4 : Aside0 (Below w.heap.size w w4) := ⟨below_to HB2.out hb4⟩
          clear hb4
          rw [num_2]
          go_wp2
          go_ret3
          rw [HAN2.out]
          exact ⟨rfl, HB4.out⟩
      · go_wp2
        go_ret3
        rw [← HAN.out]
        exact ⟨rfl, HB.out⟩

end Go.Proofs.YtkipjalfgdfaiaaGreatDoor
namespace Go.Proofs.YtkipjalfgdfaiaaGreatDoor
set_option linter.unusedVariables false
set_option linter.unusedSimpArgs false
open Go.RowKit Go.Proofs.YtkipjalfgdfaiaaGreatDoorW.PrintWords Go.Proofs.YtkipjalfgdfaiaaGreatDoorW.PrintLast Go.Proofs.YtkipjalfgdfaiaaGreatDoorW.PrintMore

theorem indexAny_is : ∀ l : List UInt8, Lib.indexAny l [61, 58] = idxI l
  | [] => rfl
  | b :: l => by
    have ih := indexAny_is l
    unfold Lib.indexAny
    rw [ih]
    unfold idxI
    by_cases h : b = 61 ∨ b = 58
    · rw [if_pos (by rcases h with rfl | rfl <;> rfl), idxL, if_pos h]
      rfl
    · have hc : ¬ ([61, 58] : List UInt8).contains b = true := fun hh => h (by simpa using hh)
      rw [if_neg hc, idxL, if_neg h]
      cases idxL l with
      | none => rfl
      | some i =>
        show (if ((i : Int) == -1) = true then (-1 : Int) else (i : Int) + 1) = ((i + 1 : Nat) : Int)
        rw [if_neg (by rw [beq_iff_eq]; omega)]
        omega
theorem index_long (s : ByteArray) (h8 : 8 < s.size) (hs : s.size < 4294967281) : IndexIs s := fun W => by
  refine (Tryz.strings_IndexAny_long (zero_of_info (n := 256) (by kernel_rfl)).1 s ⟨#[61, 58]⟩ W (by decide) h8 hs (by decide) (ascii_of_all (by decide))).mono ?_
  rintro e w' ⟨rfl, rfl⟩
  exact ⟨congrArg (fun i => Ending.returned (.int .i64 i)) (indexAny_is _), below_alloc (below_alloc (Below.refl _ _) _) _⟩

end Go.Proofs.YtkipjalfgdfaiaaGreatDoor
namespace Go.Proofs.YtkipjalfgdfaiaaGreatDoor
set_option linter.unusedVariables false
set_option linter.unusedSimpArgs false
open Go.RowKit Go.Proofs.YtkipjalfgdfaiaaGreatDoorW.PrintWords Go.Proofs.YtkipjalfgdfaiaaGreatDoorW.PrintLast Go.Proofs.YtkipjalfgdfaiaaGreatDoorW.PrintMore Go.Proofs.YtkipjalfgdfaiaaGreatDoor.PLinesRead

end Go.Proofs.YtkipjalfgdfaiaaGreatDoor

namespace Go.Proofs.YtkipjalfgdfaiaaGreatDoor
set_option linter.unusedVariables false
set_option linter.unusedSimpArgs false
open Go.RowKit Go.Proofs.YtkipjalfgdfaiaaGreatDoorW.PrintWords Go.Proofs.YtkipjalfgdfaiaaGreatDoorW.PrintLast Go.Proofs.YtkipjalfgdfaiaaGreatDoorW.PrintMore Go.Proofs.YtkipjalfgdfaiaaGreatDoor.PLinesRead

end Go.Proofs.YtkipjalfgdfaiaaGreatDoor

namespace Go.Proofs.YtkipjalfgdfaiaaGreatDoor
set_option linter.unusedVariables false
set_option linter.unusedSimpArgs false
open Go.RowKit Go.Proofs.YtkipjalfgdfaiaaGreatDoorW.PrintWords Go.Proofs.YtkipjalfgdfaiaaGreatDoorW.PrintLast Go.Proofs.YtkipjalfgdfaiaaGreatDoorW.PrintMore

theorem idxL_hit : ∀ (L : List UInt8) (i : Nat) (hi : i < L.length), (∀ b ∈ L.take i, ¬ (b = 61 ∨ b = 58)) → (L[i] = 61 ∨ L[i] = 58) → idxL L = some i
  | b :: l, 0, hi, _, hb => by
    have hb' : b = 61 ∨ b = 58 := hb
    rw [idxL, if_pos hb']
  | b :: l, i + 1, hi, h, hb => by
    have h0 : ¬ (b = 61 ∨ b = 58) := h b (by rw [List.take_succ_cons]; exact List.mem_cons_self)
    have ih := idxL_hit l i (by simpa using hi) (fun x hx => h x (by rw [List.take_succ_cons]; exact List.mem_cons_of_mem _ hx)) (by simpa using hb)
    rw [idxL, if_neg h0, ih]
    rfl
theorem idxL_none : ∀ (L : List UInt8), (∀ b ∈ L, ¬ (b = 61 ∨ b = 58)) → idxL L = none
  | [], _ => rfl
  | b :: l, h => by
    rw [idxL, if_neg (h b List.mem_cons_self), idxL_none l (fun x hx => h x (List.mem_cons_of_mem _ hx))]
    rfl
end Go.Proofs.YtkipjalfgdfaiaaGreatDoor
namespace Go.Proofs.YtkipjalfgdfaiaaGreatDoor
set_option linter.unusedVariables false
set_option linter.unusedSimpArgs false
open Go.RowKit Go.Proofs.YtkipjalfgdfaiaaGreatDoorW.PrintWords Go.Proofs.YtkipjalfgdfaiaaGreatDoorW.PrintLast Go.Proofs.YtkipjalfgdfaiaaGreatDoorW.PrintMore

set_option maxHeartbeats 4000000 in
set_option maxRecDepth 100000 in
theorem indexRune_high (r : Int) (h128 : 128 ≤ r) (hr : r ≤ 2147483647) (w : World) :
    Calls Tryz.prog 166 #[.string ⟨#[61, 58]⟩, .int .i32 r] w fun e w' => e = .returned (.int .i64 (-1)) ∧ Below w.heap.size w w' := by
  by_cases he : r = 65533
  · subst he
    have hn0 : ∀ ty, (Instr.next (.pointer (some ⟨w.heap.size, 0, none⟩)) true ty).run Tryz.prog (w.iter ⟨#[61, 58]⟩ 0) = .ok (.tuple #[.bool true, .int .i64 0, .int .i32 61]) (w.iter ⟨#[61, 58]⟩ 1) := fun ty => run_next_ascii w ⟨#[61, 58]⟩ 0 ty (by decide) (by decide)
    have hn1 : ∀ ty, (Instr.next (.pointer (some ⟨w.heap.size, 0, none⟩)) true ty).run Tryz.prog (w.iter ⟨#[61, 58]⟩ 1) = .ok (.tuple #[.bool true, .int .i64 1, .int .i32 58]) (w.iter ⟨#[61, 58]⟩ 2) := fun ty => run_next_ascii w ⟨#[61, 58]⟩ 1 ty (by decide) (by decide)
    have hn2 : ∀ ty, (Instr.next (.pointer (some ⟨w.heap.size, 0, none⟩)) true ty).run Tryz.prog (w.iter ⟨#[61, 58]⟩ 2) = _ := fun ty => run_next_end w ⟨#[61, 58]⟩ 2 ty (by decide)
    go_enter Tryz.func166, Tryz.ntmps166
    go_wp2
    go_loopw [] (fun w' => ∃ (pos : Nat), w' = w.iter ⟨#[61, 58]⟩ pos ∧ pos ≤ 2) (fun w' => 2 - w'.iterPos w.heap.size)
    case atStart => exact ⟨0, rfl, by omega⟩
    case round =>
      obtain ⟨pos, rfl, hp⟩ := hrel
      have hp3 : pos = 0 ∨ pos = 1 ∨ pos = 2 := by omega
      have HB : Aside0 (Below w.heap.size w (w.iter ⟨#[61, 58]⟩ 2)) := ⟨below_alloc (Below.refl _ _) _⟩
      rcases hp3 with rfl | rfl | rfl
      · go_wp2
        go_roundw
        case rel => exact ⟨1, rfl, by omega⟩
        case measure => simp
      · go_wp2
        go_roundw
        case rel => exact ⟨2, rfl, by omega⟩
        case measure => simp
      · go_wp2
        go_ret
        exact ⟨rfl, HB.out⟩
  · have hbe : (r == 65533) = false := beq_eq_false_iff_ne.2 he
    by_cases hv : Utf8.valid r = true
    · have hvr : Lib.validRune r = true := by
        unfold Utf8.valid at hv
        unfold Lib.validRune
        simp only [Bool.or_eq_true, Bool.and_eq_true, decide_eq_true_eq] at hv ⊢
        omega
      obtain ⟨h2, h4, hlast⟩ := encode_facts r hv h128
      have HV := Aside0.mk (fun W => Tryz.utf8_ValidRune r W)
      have HIB := Aside0.mk (fun t c W => Tryz.strings_IndexByte t c W)
      rw [hvr] at HV
      obtain ⟨E, hE⟩ : ∃ E, Utf8.encode r = E := ⟨_, rfl⟩
      rw [hE] at h2 h4 hlast
      have hr128 : ¬ r < 128 := by omega
      clear hv hvr
      by_cases hn : E.size = 2
      · have hl1 : 128 ≤ (E[1]'(by omega)).toNat := by
          have := hlast (by omega)
          simpa [hn] using this
        have hne : ((((⟨#[61, 58]⟩ : ByteArray)[1]'(by decide)).toNat : Int) != ((E[1]'(by omega)).toNat : Int)) = true := bne_iff_ne.2 (by show ¬ (58 : Int) = _; omega)
        go_enter Tryz.func166, Tryz.ntmps166
        go_wp2_with fail
        refine (HV.out _).mono ?_
        rintro e w1 ⟨rfl, rfl⟩
        go_wp2
        go_step3
        go_wp2
        go_loopg [9, 10] 1 (fun gk i f w' => i = .int .i64 1 ∧ f = .int .i64 0 ∧ w' = w1 ∧ Aside0 (gk = 1))
        case atStart => exact ⟨by first | rfl | simp [hn], rfl, rfl, ⟨rfl⟩⟩
        case round =>
          obtain ⟨rfl, rfl, rfl, HG⟩ := hrel
          have hix : ∀ c, Lib.indexByte ByteArray.empty.data.toList c = -1 := fun c => rfl
          go_wp2
          go_step3
          go_wp2
          have hsz2 : (1 : Int) < (E.size : Int) := by omega
          have hsz3 : (1 : Int) < ((⟨#[61, 58]⟩ : ByteArray).size : Int) := by decide
          go_quiet (fail)
          go_wp2
          go_quiet (first | (go_at_call 116; refine (HIB.out _ _ _).mono ?_; rintro e w' ⟨rfl, rfl⟩; first | exact ⟨rfl, _, rfl⟩ | exact ⟨rfl, 0, rfl⟩ | exact ⟨rfl, _, World.drewN_drewN _ _ _⟩))
          simp only [hix]
          go_wp2
          simp only [Exit.noGoto_ret, Exit.inBlock, Exit.then]
          go_ret
          exact ⟨rfl, by repeat (first | exact Below.refl _ _ | apply pw_below_drewN)⟩
      · go_enter Tryz.func166, Tryz.ntmps166
        go_wp2_with fail
        refine (HV.out _).mono ?_
        rintro e w1 ⟨rfl, rfl⟩
        go_wp2
        go_step3
        go_wp2
        go_loopg [9, 10] 1 (fun gk i f w' => i = .int .i64 ((E.size : Int) - 1) ∧ f = .int .i64 0 ∧ w' = w1 ∧ Aside0 (gk = 1))
        case atStart => exact ⟨by first | rfl | go_num, rfl, rfl, ⟨rfl⟩⟩
        case round =>
          obtain ⟨rfl, rfl, rfl, HG⟩ := hrel
          have hge : ¬ ((E.size : Int) - 1 < 2) := by omega
          go_wp2
          go_ret
          exact ⟨rfl, Below.refl _ _⟩
    · have hvr : Lib.validRune r = false := by
        refine Bool.eq_false_iff.2 (fun h => hv ?_)
        unfold Lib.validRune at h
        unfold Utf8.valid
        simp only [Bool.or_eq_true, Bool.and_eq_true, decide_eq_true_eq] at h ⊢
        omega
      have HV := Aside0.mk (fun W => Tryz.utf8_ValidRune r W)
      rw [hvr] at HV
      go_enter Tryz.func166, Tryz.ntmps166
      go_wp2_with fail
      refine (HV.out _).mono ?_
      rintro e w1 ⟨rfl, rfl⟩
      go_wp2
      go_ret
      exact ⟨rfl, Below.refl _ _⟩

end Go.Proofs.YtkipjalfgdfaiaaGreatDoor

namespace Go.Proofs.YtkipjalfgdfaiaaGreatDoor
set_option linter.unusedVariables false
set_option linter.unusedSimpArgs false
open Go.RowKit Go.Proofs.YtkipjalfgdfaiaaGreatDoorW.PrintWords Go.Proofs.YtkipjalfgdfaiaaGreatDoorW.PrintLast Go.Proofs.YtkipjalfgdfaiaaGreatDoorW.PrintMore Go.Lib

theorem dec_cont (s : ByteArray) (pos j : Nat) (h1 : pos < j) (h2 : j < pos + (Utf8.decode s pos).2) (hj : j < s.size) : 128 ≤ (s[j]'hj).toNat := by
  have hg : ∀ k, j = pos + k → (s.get! (pos + k)).toNat = (s[j]'hj).toNat := fun k e => by
    subst e
    simp [ByteArray.get!, getElem!_pos, hj]
    rfl
  obtain ⟨x, hx⟩ : ∃ x, (s[j]'hj).toNat = x := ⟨_, rfl⟩
  rw [hx]
  have hgx : ∀ k, j = pos + k → (s.get! (pos + k)).toNat = x := fun k e => (hg k e).trans hx
  clear hg hx
  have h3 := h2
  clear h2
  simp only [Utf8.decode] at h3
  repeat' split at h3
  all_goals simp only [Bool.and_eq_true, decide_eq_true_eq, beq_iff_eq] at *
  all_goals first
    | omega
    | (rcases (show j = pos + 1 ∨ j = pos + 2 ∨ j = pos + 3 by omega) with e | e | e
       all_goals first
         | (have h4 := hgx 1 e; omega)
         | (have h4 := hgx 2 e; omega)
         | (have h4 := hgx 3 e; omega))
theorem dec_end (s : ByteArray) (pos : Nat) (h : pos < s.size) : pos + (Utf8.decode s pos).2 ≤ s.size := by
  simp only [Utf8.decode]
  repeat' split
  all_goals simp_all
  all_goals omega

theorem idxI_none {L : List UInt8} (h : ∀ b ∈ L, ¬ (b = 61 ∨ b = 58)) : idxI L = -1 := by
  unfold idxI
  rw [idxL_none L h]
theorem idxI_hit {L : List UInt8} {i : Nat} {x : UInt8} (hx : L[i]? = some x) (h : ∀ b ∈ L.take i, ¬ (b = 61 ∨ b = 58)) (hb : x = 61 ∨ x = 58) : idxI L = (i : Int) := by
  obtain ⟨hi, rfl⟩ := List.getElem?_eq_some_iff.1 hx
  unfold idxI
  rw [idxL_hit L i hi h hb]
theorem sep_byte (x : UInt8) (h : x.toNat < 128) : Lib.indexByte [61, 58] ((x.toNat : Int)).toNat.toUInt8 = if x = 61 then 0 else if x = 58 then 1 else -1 := by
  have e : ((x.toNat : Int)).toNat.toUInt8 = x := by simp
  rw [e]
  unfold Lib.indexByte Lib.indexByte Lib.indexByte
  by_cases h1 : x = 61
  · subst h1; rfl
  · by_cases h2 : x = 58
    · subst h2; rfl
    · have b1 : ((61 : UInt8) == x) = false := beq_eq_false_iff_ne.2 (fun e => h1 e.symm)
      have b2 : ((58 : UInt8) == x) = false := beq_eq_false_iff_ne.2 (fun e => h2 e.symm)
      simp [b1, b2, h1, h2]

set_option maxHeartbeats 4000000 in
set_option maxRecDepth 100000 in
theorem index_short (s : ByteArray) (h8 : s.size ≤ 8) : IndexIs s := fun w => by
  have hd : decide ((8 : Int) < (s.size : Int)) = false := decide_eq_false (by omega)
  have HU := Aside0.mk (fun W => Tryz.strings_shouldUseASCIISet (s.size : Int) W)
  rw [hd] at HU
  have HIH : Aside0 (∀ i x, s.data.toList[i]? = some x → (∀ y ∈ s.data.toList.take i, ¬ (y = 61 ∨ y = 58)) → (x = 61 ∨ x = 58) → idxI s.data.toList = (i : Int)) := ⟨fun i x h1 h2 h3 => idxI_hit h1 h2 h3⟩
  have HIN := Aside0.mk (idxI_none (L := s.data.toList))
  have HAT : Aside0 (∀ i (hi : i < s.size), s.data.toList[i]? = some (s[i]'hi)) := ⟨fun i hi => by
    rw [List.getElem?_eq_getElem (by rw [← Lib.size_eq s]; exact hi)]
    congr 1⟩
  have HSL := Aside0.mk (Lib.size_eq s)
  obtain ⟨ans, hans⟩ : ∃ ans, idxI s.data.toList = ans := ⟨_, rfl⟩
  rw [hans] at HIN HIH ⊢
  obtain ⟨L, hL⟩ : ∃ L, s.data.toList = L := ⟨_, rfl⟩
  rw [hL] at HIN HSL HIH
  have HAT2 : Aside0 (∀ i (hi : i < s.size), L[i]? = some (s[i]'hi)) := ⟨fun i hi => by rw [← hL]; exact HAT.out i hi⟩
  clear HAT
  have HIT : Aside0 ((w.iter s 0).heap[w.heap.size]? = some (.stringIter s 0)) := ⟨World.iter_heap w s 0⟩
  have HB0 : Aside0 (Below w.heap.size w (w.iter s 0)) := ⟨below_alloc (Below.refl _ _) _⟩
  have HBL : Aside0 (∀ i, i < 1 → True) := ⟨fun _ _ => trivial⟩
  clear hd hans hL HBL
  go_enter Tryz.func142, Tryz.ntmps142
  go_wp2_with fail
  refine (HU.out _).mono ?_
  rintro e w1 ⟨rfl, rfl⟩
  go_wp2
  go_loopg [46] s.size (fun gk x w' => ∃ (pos : Nat), Aside0 (pos ≤ s.size ∧ gk = s.size - pos) ∧ Aside0 (∀ y ∈ L.take pos, ¬ (y = 61 ∨ y = 58)) ∧ Aside0 (w'.heap[w1.heap.size]? = some (.stringIter s pos)) ∧ Aside0 (Below w1.heap.size w1 w'))
  case atStart => exact ⟨0, ⟨Nat.zero_le _, rfl⟩, ⟨fun y hy => by simp at hy⟩, HIT, HB0⟩
  case round =>
    obtain ⟨pos, HA, HN, HI, HB⟩ := hrel
    by_cases hp : pos < s.size
    · have hnx : ∀ ty, (Instr.next (.pointer (some ⟨w1.heap.size, 0, none⟩)) true ty).run Tryz.prog wr = _ := fun ty => run_next_any_at wr w1.heap.size s pos ty HI.out hp
      have hat := HAT2.out pos hp
      have hw := decode_width_pos s pos hp
      have hde := dec_end s pos hp
      have hdle := decode_le s pos
      have hcn := fun j h1 h2 hj => dec_cont s pos j h1 h2 hj
      have hasc := fun ha => decode_ascii s pos hp ha
      have hhi := fun ha => (decode_high s pos hp ha).1
      obtain ⟨x, hx⟩ : ∃ x, s[pos]'hp = x := ⟨_, rfl⟩
      rw [hx] at hat hasc hhi
      obtain ⟨rn, hrn⟩ : ∃ rn, (Utf8.decode s pos).1 = rn := ⟨_, rfl⟩
      obtain ⟨kk, hkk⟩ : ∃ kk, (Utf8.decode s pos).2 = kk := ⟨_, rfl⟩
      have HKK : Aside0 (x.toNat < 128 → rn = x.toNat ∧ kk = 1) := ⟨fun h => by rw [← hrn, ← hkk, hasc h]; exact ⟨rfl, rfl⟩⟩
      rw [hrn, hkk] at hnx
      rw [hrn] at hdle hhi
      rw [hkk] at hw hde hcn
      have HCN := Aside0.mk hcn
      clear hrn hkk hcn hasc
      have HI2 : Aside0 ((wr.iterAt w1.heap.size s (pos + kk)).heap[w1.heap.size]? = some (.stringIter s (pos + kk))) := ⟨iterAt_heap wr w1.heap.size s pos (pos + kk) HI.out⟩
      have HB2 : Aside0 (Below w1.heap.size w1 (wr.iterAt w1.heap.size s (pos + kk))) := ⟨below_iterAt HB.out (Nat.le_refl _) s (pos + kk)⟩
      have HBI : Aside0 (w1.heap.size < (wr.iterAt w1.heap.size s (pos + kk)).heap.size) := ⟨(Array.getElem?_eq_some_iff.1 HI2.out).1⟩
      have HN2 : Aside0 (¬ (x = 61 ∨ x = 58) → ∀ y ∈ L.take (pos + kk), ¬ (y = 61 ∨ y = 58)) := ⟨fun hns y hy => by
        obtain ⟨j, hj, hjy⟩ := List.getElem_of_mem hy
        rw [List.length_take] at hj
        rw [List.getElem_take] at hjy
        have hjs : j < s.size := by have := HSL.out; omega
        have hLj := HAT2.out j hjs
        rw [List.getElem?_eq_getElem (by omega)] at hLj
        have hsj := Option.some.inj hLj
        rw [hjy] at hsj
        rcases Nat.lt_trichotomy j pos with h1 | h1 | h1
        · refine HN.out y (List.mem_iff_getElem.2 ⟨j, by rw [List.length_take]; omega, ?_⟩)
          rw [List.getElem_take]
          exact hjy
        · subst h1
          rw [hsj, hx]
          exact hns
        · have h2 := HCN.out j h1 (by omega) hjs
          rw [← hsj] at h2
          rintro (rfl | rfl)
          · exact absurd h2 (by decide)
          · exact absurd h2 (by decide)⟩
      by_cases ha : x.toNat < 128
      · obtain ⟨rfl, rfl⟩ := HKK.out ha
        have HR := Aside0.mk (fun W => Tryz.strings_IndexRune_ascii ⟨#[61, 58]⟩ (x.toNat : Int) W (by omega) (by omega))
        have hsb := sep_byte x ha
        rw [show (⟨#[61, 58]⟩ : ByteArray).data.toList = [61, 58] from rfl, hsb] at HR
        by_cases h61 : x = 61
        · rw [if_pos h61] at HR
          have hans := HIH.out pos x hat HN.out (.inl h61)
          clear HKK HN2 hsb hhi h61 hx
          go_wp2_with fail
          refine (HR.out _).mono ?_
          rintro e w4 ⟨rfl, rfl⟩
          go_wp2
          go_ret
          rw [hans]
          exact ⟨rfl, HB2.out⟩
        · rw [if_neg h61] at HR
          by_cases h58 : x = 58
          · rw [if_pos h58] at HR
            have hans := HIH.out pos x hat HN.out (.inr h58)
            clear HKK HN2 hsb hhi h58 h61 hx
            go_wp2_with fail
            refine (HR.out _).mono ?_
            rintro e w4 ⟨rfl, rfl⟩
            go_wp2
            go_ret
            rw [hans]
            exact ⟨rfl, HB2.out⟩
          · rw [if_neg h58] at HR
            have HN3 := Aside0.mk (HN2.out (fun h => h.elim h61 h58))
            clear HKK HN2 hsb hhi h58 h61 hx
            go_wp2_with fail
            refine (HR.out _).mono ?_
            rintro e w4 ⟨rfl, rfl⟩
            go_wp2
            go_roundg (s.size - (pos + 1))
            case measure => have := HA.out; omega
            case rel => exact ⟨pos + 1, ⟨by omega, rfl⟩, HN3, HI2, HB2⟩
      · have hrh := hhi (by omega)
        have HR := Aside0.mk (fun W => indexRune_high (rn : Int) (by omega) (by omega) W)
        have HN3 := Aside0.mk (HN2.out (fun h => by
          rcases h with rfl | rfl
          · exact ha (by decide)
          · exact ha (by decide)))
        clear HKK HN2 hhi
        go_wp2_with fail
        refine (HR.out _).mono ?_
        rintro e w4 ⟨rfl, hb4⟩
        have HI4 : Aside0 (w4.heap[w1.heap.size]? = some (.stringIter s (pos + kk))) := ⟨(hb4.block _ HBI.out).trans HI2.out⟩
        have HB4 : Aside0 (Below w1.heap.size w1 w4) := ⟨below_to HB2.out hb4⟩
        clear hb4
        go_wp2
        go_roundg (s.size - (pos + kk))
        case measure => have := HA.out; omega
        case rel => exact ⟨pos + kk, ⟨by omega, rfl⟩, HN3, HI4, HB4⟩
    · have hnx : ∀ ty, (Instr.next (.pointer (some ⟨w1.heap.size, 0, none⟩)) true ty).run Tryz.prog wr = _ := fun ty => run_next_end_at wr w1.heap.size s pos ty HI.out hp
      have hans := HIN.out (by
        have h1 := HN.out
        rwa [List.take_of_length_le (by have := HSL.out; omega)] at h1)
      go_wp2
      go_ret
      rw [hans]
      exact ⟨rfl, HB.out⟩

end Go.Proofs.YtkipjalfgdfaiaaGreatDoor

namespace Go.Proofs.YtkipjalfgdfaiaaGreatDoor
set_option linter.unusedVariables false
set_option linter.unusedSimpArgs false
open Go.RowKit Go.Proofs.YtkipjalfgdfaiaaGreatDoorW.PrintWords Go.Proofs.YtkipjalfgdfaiaaGreatDoorW.PrintLast Go.Proofs.YtkipjalfgdfaiaaGreatDoorW.PrintMore

theorem index_all (s : ByteArray) (hs : s.size < 4294967281) : IndexIs s := by
  by_cases h : s.size ≤ 8
  · exact index_short s h
  · exact index_long s (by omega) hs
theorem resolve_all (b : ByteArray) (hal : AliasIs b) (s : ByteArray) (m : Int) (w : World) (hm : MaxIs w m) (hs : s.size < 4294967281) :
    Calls Tryz.prog 102 #[.string s] w fun e w' => e = .returned (.tuple #[.int .i64 (resolveL (rowsB b) s).1, .string (resolveL (rowsB b) s).2.1, .int .i64 (resolveL (rowsB b) s).2.2]) ∧ Below w.heap.size w w' :=
  resolve_any b hal s m w hm (by omega) (index_all s hs)

theorem findL_mem : ∀ {R : List (List ByteArray)} {k want v : ByteArray}, findL k want R = some v → ∃ f ∈ R, cellB f 0 = k ∧ cellB f 1 = v
  | [], _, _, _, h => by cases h
  | f :: r, k, want, v, h => by
    unfold findL at h
    split at h
    · rename_i hh
      cases h
      unfold rowHit at hh
      rw [Bool.and_eq_true] at hh
      exact ⟨f, List.mem_cons_self, eqB_iff.1 hh.1, rfl⟩
    · obtain ⟨g, hg, h2⟩ := findL_mem h
      exact ⟨g, List.mem_cons_of_mem _ hg, h2⟩
end Go.Proofs.YtkipjalfgdfaiaaGreatDoor
namespace Go.Proofs.YtkipjalfgdfaiaaGreatDoor
set_option linter.unusedVariables false
set_option linter.unusedSimpArgs false
open Go.RowKit Go.Proofs.YtkipjalfgdfaiaaGreatDoorW.PrintWords Go.Proofs.YtkipjalfgdfaiaaGreatDoorW.PrintLast Go.Proofs.YtkipjalfgdfaiaaGreatDoorW.PrintMore Go.Proofs.YtkipjalfgdfaiaaGreatDoor.PTk

theorem findL_small {R : List (List ByteArray)} (h : rowsOk R = true) {k want v : ByteArray} (hf : findL k want R = some v) : v.size < 1000 := by
  obtain ⟨f, hm, -, rfl⟩ := findL_mem hf
  obtain ⟨h3, hs, -⟩ := row_ok h hm
  rw [cell_at (show 1 < f.length by omega)]
  exact hs _ (List.getElem_mem _)
theorem bare_small {R : List (List ByteArray)} (h : rowsOk R = true) (s : ByteArray) : ∀ ks, (bareL R s ks).2.1.size < 1000
  | [] => by unfold bareL; decide
  | k :: r => by
    unfold bareL
    split
    · exact bare_small h s r
    · rename_i v hv
      exact findL_small h hv
theorem resolve_small {R : List (List ByteArray)} (h : rowsOk R = true) (s : ByteArray) : (resolveL R s).2.1.size < 1000 := by
  unfold resolveL
  split
  · unfold keyL
    split
    · decide
    · unfold valL
      split
      · decide
      · rename_i v hv
        exact findL_small h hv
  · exact bare_small h s _
set_option maxHeartbeats 8000000 in
set_option maxRecDepth 100000 in
theorem canon_any (b : ByteArray) (hal : AliasIs b) (x : ByteArray) (m : Int) (w : World) (hm : MaxIs w m) (hs : x.size < 4294967281) :
    Calls Tryz.prog 148 #[.string x] w fun e w' => e = .returned (.tuple #[.string (canonL (resolveL (rowsB b)) x).1, .int .i64 (canonL (resolveL (rowsB b)) x).2]) ∧ Below w.heap.size w w' := by
  have HR := Aside0.mk (resolve_all b hal x m w hm hs)
  have HL : Aside0 (canonL (resolveL (rowsB b)) x = match resolveL (rowsB b) x with
    | (kind, v, e) => if e ≠ 0 then (⟨#[]⟩, e) else if kind = 1 then (⟨#[103, 99, 61]⟩ ++ v, e) else if kind = 2 then (⟨#[115, 99, 61]⟩ ++ v, e) else (v, e)) := ⟨rfl⟩
  obtain ⟨r, hr⟩ : ∃ r, resolveL (rowsB b) x = r := ⟨_, rfl⟩
  rw [hr] at HR HL
  have hvs := resolve_small hal.2.2.1 x
  rw [hr] at hvs
  obtain ⟨kind, v, er⟩ := r
  simp only at hvs
  obtain ⟨C, hC⟩ : ∃ C, canonL (resolveL (rowsB b)) x = C := ⟨_, rfl⟩
  rw [hC] at HL ⊢
  simp only at HR HL
  clear hm hs hr hC hal
  by_cases he : er = 0
  · subst he
    rw [if_neg (by decide)] at HL
    by_cases h1 : kind = 1
    · rw [if_pos h1] at HL
      subst h1
      obtain ⟨y, hy⟩ : ∃ y, (⟨#[103, 99, 61]⟩ : ByteArray) ++ v = y := ⟨_, rfl⟩
      rw [hy] at HL
      go_enter Tryz.func148, Tryz.ntmps148
      go_wp2_with fail
      refine HR.out.mono ?_
      rintro e w1 ⟨rfl, hb⟩
      have HB := Aside0.mk hb
      clear hb
      go_wp2
      go_ret2
      rw [HL.out]
      exact ⟨rfl, HB.out⟩
    · rw [if_neg h1] at HL
      have e1 : (kind == 1) = false := by rw [beq_eq_false_iff_ne]; exact h1
      by_cases h2 : kind = 2
      · rw [if_pos h2] at HL
        subst h2
        obtain ⟨y, hy⟩ : ∃ y, (⟨#[115, 99, 61]⟩ : ByteArray) ++ v = y := ⟨_, rfl⟩
        rw [hy] at HL
        clear h1 e1
        go_enter Tryz.func148, Tryz.ntmps148
        go_wp2_with fail
        refine HR.out.mono ?_
        rintro e w1 ⟨rfl, hb⟩
        have HB := Aside0.mk hb
        clear hb
        go_wp2
        go_ret2
        rw [HL.out]
        exact ⟨rfl, HB.out⟩
      · rw [if_neg h2] at HL
        have e2 : (kind == 2) = false := by rw [beq_eq_false_iff_ne]; exact h2
        clear h1 h2
        go_enter Tryz.func148, Tryz.ntmps148
        go_wp2_with fail
        refine HR.out.mono ?_
        rintro e w1 ⟨rfl, hb⟩
        have HB := Aside0.mk hb
        clear hb
        go_wp2
        go_ret2
        rw [HL.out]
        exact ⟨rfl, HB.out⟩
  · rw [if_pos he] at HL
    have hn1 : (er != 0) = true := by rw [bne_iff_ne]; exact he
    have hn2 : (er == 0) = false := by rw [beq_eq_false_iff_ne]; exact he
    clear he
    go_enter Tryz.func148, Tryz.ntmps148
    go_wp2_with fail
    refine HR.out.mono ?_
    rintro e w1 ⟨rfl, hb⟩
    have HB := Aside0.mk hb
    clear hb
    go_wp2
    go_ret2
    rw [HL.out]
    exact ⟨rfl, HB.out⟩

section
variable {W0 w : World} {m : Int} {base g h : Nat} {A : Option Addr} {c : Nat} {p : List Int} {st ne k : Nat} {t : Tk}
set_option maxHeartbeats 16000000 in
set_option maxRecDepth 100000 in
theorem prop_any (b : ByteArray) (hal : AliasIs b) (S : St W0 m base g h A c p st ne t k w) (hst : t.st = st) (hk : st ≤ k) :
    Calls Tryz.prog 111 #[.pointer (some ⟨g, 0, none⟩), .pointer (some ⟨h, 0, none⟩)] w (RT W0 g h (fun t k w' => St W0 m base g h A c p st ne t k w') (propL (resolveL (rowsB b)) p k t)) := by
  have HS0 := Aside0.mk S
  have hgh := S.hn
  have hgh2 := Ne.symm S.hn
  have HAL := Aside0.mk hal
  have HL : Aside0 (propL (resolveL (rowsB b)) p k t = thenF (needL p t.st k 123 132) fun k1 => thenF (uptoL p p.length k1) fun k2 => propE (resolveL (rowsB b)) (strOfNums ((p.drop k1).take (k2 - k1))) k2 t) := ⟨rfl⟩
  rw [hst] at HL
  cases hq : needL p st k 123 132 with
  | error x =>
    have HQ := Aside0.mk hq
    rw [hq, thenF_err] at HL
    clear S hst hk hq hal
    go_enter Tryz.func111, Tryz.ntmps111
    go_wp2_with fail
    refine (sNeed HS0.out 123 132).mono ?_
    intro e w1 hr
    rw [HQ.out] at hr
    obtain ⟨rfl, hB⟩ := hr
    have HBE := Aside0.mk hB
    clear hB
    go_wp2
    rw [HL.out]
    exact ⟨rfl, rfl, HBE.out⟩
  | ok k1 =>
    have HQ := Aside0.mk hq
    rw [hq, thenF_ok] at HL
    have hk1 := (need_ok hq).1
    have hk1l : k1 ≤ p.length := by have := (need_ok hq).2.1; omega
    have hpl := S.sv.len
    have hfu : p.length < p.length + k1 := by omega
    obtain ⟨U, hU⟩ : ∃ U, uptoL p p.length k1 = U := ⟨_, rfl⟩
    have HU := Aside0.mk hU
    rw [hU] at HL
    have HST : Aside0 (t.st = st) := ⟨hst⟩
    clear S hst hk hq hal hk1 hU
    go_enter Tryz.func111, Tryz.ntmps111
    go_wp2_with fail
    refine (sNeed HS0.out 123 132).mono ?_
    intro e w1 hr
    rw [HQ.out] at hr
    obtain ⟨rfl, hS⟩ := hr
    have HS1 := Aside0.mk hS
    have ca := hS.at_
    clear hS
    go_wp2
    go_loopg [13] p.length (fun gk d w' => ∃ (j f : Nat), Aside0 (gk = f ∧ p.length < f + j ∧ k1 ≤ j ∧ j ≤ p.length) ∧ Aside0 (uptoL p f j = U) ∧ Aside0 (St W0 m base g h A c p st ne t j w'))
    case atStart => exact ⟨k1, p.length, ⟨rfl, hfu, Nat.le_refl _, hk1l⟩, HU, HS1⟩
    case round =>
      clear ca
      obtain ⟨j, f, HA, HJ, HS⟩ := hrel
      obtain ⟨f, rfl⟩ : ∃ f', f = f' + 1 := ⟨f - 1, by have := HA.out; omega⟩
      have hj := HJ.out
      rw [uptoL_succ] at hj
      cases hp : peekL p j with
      | error x =>
        have HP := Aside0.mk hp
        rw [hp, thenF_err] at hj
        subst hj
        rw [thenF_err] at HL
        clear hp
        go_wp2_with fail
        refine (sPeek HS.out).mono ?_
        intro e w2 hr
        rw [HP.out] at hr
        obtain ⟨rfl, hB⟩ := hr
        have HBE := Aside0.mk hB
        clear hB
        go_wp2
        rw [HL.out]
        exact ⟨rfl, rfl, HBE.out⟩
      | ok d =>
        have HP := Aside0.mk hp
        rw [hp, thenF_ok] at hj
        by_cases hd : d = 125
        · rw [if_pos hd] at hj
          subst hd
          subst hj
          rw [thenF_ok] at HL
          have hjl : j < p.length := (peek_ok hp).1
          have hk1j := HA.out.2.2.1
          obtain ⟨i0, hi0, _, hsz, _⟩ := info_parts info5
          have hct := cut_mid (P := Tryz.prog) 34 5 .i64 .i64 Tryz.underlying34 hi0 1 hsz A p.length c (k1 : Int) (j : Int) (by omega) (by omega) (by omega) HS.out.sv.cap
          simp only [Int.toNat_natCast] at hct
          have hCW : ∀ W {w2 : World}, Below w2.heap.size w2 W → St W0 m base g h A c p st ne t j w2 → Kd.C kB W (if c = k1 then A else A.map (·.add (k1 * 1))) ((p.drop k1).take (j - k1)).length ((p.drop k1).take (j - k1)) := fun W w2 hW hS => by
            have h := Kd.C_mid (lo := k1) (hi := j) (hS.sv.rd W (hW.mono hS.bb)) hk1j (by omega) hS.sv.cap
            rw [List.drop_take] at h
            exact h
          have hql : ((p.drop k1).take (j - k1)).length = j - k1 := by rw [List.length_take, List.length_drop]; omega
          obtain ⟨q, hqq⟩ : ∃ q, (p.drop k1).take (j - k1) = q := ⟨_, rfl⟩
          rw [hql] at hCW
          rw [hqq] at hCW hql HL
          obtain ⟨A', hA'⟩ : ∃ A', (if c = k1 then A else A.map (·.add (k1 * 1))) = A' := ⟨_, rfl⟩
          obtain ⟨c', hc'⟩ : ∃ c', c - k1 = c' := ⟨_, rfl⟩
          rw [hA'] at hCW
          rw [hA', hc'] at hct
          have hqs : (strOfNums q).size < 4294967281 := by rw [strN_size]; omega
          have HCA := Aside0.mk (fun (x : ByteArray) (W : World) (hm : MaxIs W m) (hx : x.size < 4294967281) => canon_any b HAL.out x m W hm hx)
          obtain ⟨s, hs⟩ : ∃ s, strOfNums q = s := ⟨_, rfl⟩
          have HPE : Aside0 (propE (resolveL (rowsB b)) s j t = if (canonL (resolveL (rowsB b)) s).2 ≠ 0 then .error ((canonL (resolveL (rowsB b)) s).2, t.st) else .ok ({ t with kind := 8, name := (canonL (resolveL (rowsB b)) s).1 }, j + 1)) := ⟨rfl⟩
          obtain ⟨C, hC⟩ : ∃ C, canonL (resolveL (rowsB b)) s = C := ⟨_, rfl⟩
          obtain ⟨nm, er⟩ := C
          rw [hs] at HL hqs
          rw [HPE.out] at HL
          have HCB := Aside0.mk (fun (W : World) (hm : MaxIs W m) => HCA.out s W hm hqs)
          rw [hC] at HCB HL
          simp only at HCB HL
          clear hi0 hsz hA' hc' HCA HPE hp hC hqq
          go_wp2_with fail
          refine (sPeek HS.out).mono ?_
          intro e w2 hr
          rw [HP.out] at hr
          obtain ⟨rfl, hS⟩ := hr
          have HS2 := Aside0.mk hS
          have c0 := rowc hS.sv.sc 0 _ rfl
          have ca := hS.at_
          have hcv := Kd.C_string (P := Tryz.prog) (c := c') Tryz.underlying34 Tryz.underlying5 Tryz.underlying9 (hCW w2.drew (below_drew (Below.refl _ _)) hS)
          rw [hs] at hcv
          have HCD : Aside0 (∀ W, Below w2.heap.size w2 W → Calls Tryz.prog 148 #[.string s] W fun e w' => e = .returned (.tuple #[.string nm, .int .i64 er]) ∧ Below W.heap.size W w') := ⟨fun W hW => HCB.out W ((hS.stay hW).vr.mx)⟩
          clear hS hCW
          go_wp2
          go_cut [5, 6] (fun v5 v6 wc => v5 = .string nm ∧ v6 = .int .i64 er ∧ Aside0 (Below w2.heap.size w2 wc))
          case first =>
            go_region_with (go_at_call 148; refine (HCD.out _ (below_drew (Below.refl _ _))).mono ?_; rintro e w3 ⟨rfl, hb3⟩)
            all_goals (go_wp2_with fail; go_meet)
            all_goals exact ⟨rfl, rfl, ⟨below_to (below_drew (Below.refl _ _)) hb3⟩⟩
          case rest =>
            obtain ⟨rfl, rfl, HB⟩ := hcut
            have HS3 := Aside0.mk (HS2.out.stay HB.out)
            clear c0 ca hcv hct
            by_cases he : er = 0
            · subst he
              rw [if_neg (by decide)] at HL
              have ca := HS3.out.at_
              have f1 := HS3.out.freeS 1
              have fr0 := HS3.out.free 0
              have fc0 := HS3.out.cell 0 _ rfl
              have fr4 := HS3.out.free 4
              have fc4 := HS3.out.cell 4 _ rfl
              go_wp2
              go_end0
              rw [HL.out]
              exact ⟨rfl, (((HS3.out.setK _ (j + 1) (by first | rfl | simp) (by omega)).setT 0 _ { t with kind := 8 } rfl).setT 4 _ { t with kind := 8, name := nm } rfl)⟩
            · rw [if_pos he, HST.out] at HL
              have hn1 : (er != 0) = true := by rw [bne_iff_ne]; exact he
              have hn2 : (er == 0) = false := by rw [beq_eq_false_iff_ne]; exact he
              clear he
              go_wp2_with fail
              refine (sFail HS3.out er).mono ?_
              intro e w4 hr
              obtain ⟨rfl, hB⟩ := hr
              have HBE := Aside0.mk hB
              clear hB
              go_wp2
              rw [HL.out]
              exact ⟨rfl, rfl, HBE.out⟩
        · rw [if_neg hd] at hj
          have hd1 : (d != 125) = true := by rw [bne_iff_ne]; exact hd
          have hd2 : (d == 125) = false := by rw [beq_eq_false_iff_ne]; exact hd
          have hjl : j < p.length := (peek_ok hp).1
          cases hc : charL p j with
          | error x =>
            have HC := Aside0.mk hc
            rw [hc, thenF_err] at hj
            subst hj
            rw [thenF_err] at HL
            clear hp hc hd
            go_wp2_with fail
            refine (sPeek HS.out).mono ?_
            intro e w2 hr
            rw [HP.out] at hr
            obtain ⟨rfl, hS⟩ := hr
            have HS2 := Aside0.mk hS
            clear hS
            go_wp2_with fail
            refine (sChar HS2.out hjl).mono ?_
            intro e w3 hr
            rw [HC.out] at hr
            obtain ⟨rfl, hB⟩ := hr
            have HBE := Aside0.mk hB
            clear hB
            go_wp2
            rw [HL.out]
            exact ⟨rfl, rfl, HBE.out⟩
          | ok a =>
            have HC := Aside0.mk hc
            rw [hc, thenF_ok] at hj
            obtain ⟨r, j2⟩ := a
            obtain ⟨n, -, hn1, hn2, hn3⟩ := char_ok hc
            have HN : Aside0 (j2 = j + n ∧ 1 ≤ n ∧ j + n ≤ p.length) := ⟨hn1, hn2, hn3⟩
            have HJ2 := Aside0.mk hj
            clear hp hc hd hj hn1 hn2 hn3
            go_wp2_with fail
            refine (sPeek HS.out).mono ?_
            intro e w2 hr
            rw [HP.out] at hr
            obtain ⟨rfl, hS⟩ := hr
            have HS2 := Aside0.mk hS
            clear hS
            go_wp2_with fail
            refine (sChar HS2.out hjl).mono ?_
            intro e w3 hr
            rw [HC.out] at hr
            obtain ⟨rfl, hS⟩ := hr
            have HS3 := Aside0.mk hS
            clear hS
            go_wp2
            go_roundg f
            case measure => have := HA.out; omega
            case rel => exact ⟨j2, f, ⟨rfl, by have := HA.out; have := HN.out; omega, by have := HA.out; have := HN.out; omega, by have := HN.out; omega⟩, HJ2, HS3⟩
end

end Go.Proofs.YtkipjalfgdfaiaaGreatDoor
namespace Go.Proofs.YtkipjalfgdfaiaaGreatDoor
set_option linter.unusedVariables false
set_option linter.unusedSimpArgs false
open Go.RowKit Go.Proofs.YtkipjalfgdfaiaaGreatDoorW.PrintWords Go.Proofs.YtkipjalfgdfaiaaGreatDoorW.PrintLast Go.Proofs.YtkipjalfgdfaiaaGreatDoorW.PrintMore Go.Proofs.YtkipjalfgdfaiaaGreatDoor.PTk

section
variable {W0 w : World} {m : Int} {base g h : Nat} {A : Option Addr} {c : Nat} {p : List Int} {st ne k : Nat} {t : Tk}
set_option maxHeartbeats 8000000 in
set_option maxRecDepth 100000 in
theorem point_nobrace (S : St W0 m base g h A c p st ne t k w) (hst : t.st = st) (hk : st ≤ k) (x : Int × Nat) (hq : needL p t.st k 123 132 = .error x) :
    Calls Tryz.prog 112 #[.pointer (some ⟨g, 0, none⟩), .pointer (some ⟨h, 0, none⟩)] w (RT W0 g h (fun t k w' => St W0 m base g h A c p st ne t k w') (pointL p k t)) := by
  have HS0 := Aside0.mk S
  have hgh := S.hn
  have hgh2 := Ne.symm S.hn
  have HL : Aside0 (pointL p k t = .error x) := ⟨by unfold pointL; rw [hq, thenF_err]⟩
  rw [hst] at hq
  have HQ := Aside0.mk hq
  clear S hst hk hq
  go_enter Tryz.func112, Tryz.ntmps112
  go_wp2_with fail
  refine (sNeed HS0.out 123 132).mono ?_
  intro e w1 hr
  rw [HQ.out] at hr
  obtain ⟨rfl, hB⟩ := hr
  have HBE := Aside0.mk hB
  clear hB
  go_wp2
  rw [HL.out]
  exact ⟨rfl, rfl, HBE.out⟩
set_option maxHeartbeats 8000000 in
set_option maxRecDepth 100000 in
theorem point_end (S : St W0 m base g h A c p st ne t k w) (hst : t.st = st) (hk : st ≤ k) (hq : needL p t.st k 123 132 = .ok (k + 1)) (N : Nat) (X : List Int) (hN : runN hexB 6 (p.drop (k + 1)) = N) (hX : (p.drop (k + 1)).take N = X) (s : ByteArray) (hs : strOfNums X = s) (x : Int × Nat) (hp : peekL p (k + 1 + N) = .error x) :
    Calls Tryz.prog 112 #[.pointer (some ⟨g, 0, none⟩), .pointer (some ⟨h, 0, none⟩)] w (RT W0 g h (fun t k w' => St W0 m base g h A c p st ne t k w') (pointL p k t)) := by
  have HS0 := Aside0.mk S
  have hgh := S.hn
  have hgh2 := Ne.symm S.hn
  have HL : Aside0 (pointL p k t = .error x) := ⟨by unfold pointL; rw [hq, thenF_ok, hN, hX]; unfold pointE; rw [hp, thenF_err]⟩
  rw [hst] at hq
  have HQ := Aside0.mk hq
  have HRUN : Aside0 (∀ W, St W0 m base g h A c p st ne t (k + 1) W → Calls Tryz.prog 149 #[.pointer (some ⟨g, 0, none⟩), .int .i64 6, .func (.func 150) #[] #[]] W fun e w' => e = .returned (.string s) ∧ St W0 m base g h A c p st ne t (k + 1 + N) w') := ⟨fun W hS => by have h := sRun hS _ hexB 6 (by omega) cf_hex hex_pays; rw [hN, hX, hs] at h; exact h⟩
  have HP := Aside0.mk hp
  clear S hst hk hq hN hX hs hp
  go_enter Tryz.func112, Tryz.ntmps112
  go_wp2_with fail
  refine (sNeed HS0.out 123 132).mono ?_
  intro e w1 hr
  rw [HQ.out] at hr
  obtain ⟨rfl, hS⟩ := hr
  have HS1 := Aside0.mk hS
  clear hS
  go_wp2_with fail
  refine (HRUN.out _ HS1.out).mono ?_
  intro e w2 hr
  obtain ⟨rfl, hS⟩ := hr
  have HS2 := Aside0.mk hS
  clear hS
  go_wp2_with fail
  refine (sPeek HS2.out).mono ?_
  intro e w3 hr
  rw [HP.out] at hr
  obtain ⟨rfl, hB⟩ := hr
  have HBE := Aside0.mk hB
  clear hB
  go_wp2
  rw [HL.out]
  exact ⟨rfl, rfl, HBE.out⟩
set_option maxHeartbeats 8000000 in
set_option maxRecDepth 100000 in
theorem point_none (S : St W0 m base g h A c p st ne t k w) (hst : t.st = st) (hk : st ≤ k) (hq : needL p t.st k 123 132 = .ok (k + 1)) (N : Nat) (X : List Int) (hN : runN hexB 6 (p.drop (k + 1)) = N) (hX : (p.drop (k + 1)).take N = X) (s : ByteArray) (hs : strOfNums X = s) (y : Int) (hp : peekL p (k + 1 + N) = .ok y) (h0 : X = []) :
    Calls Tryz.prog 112 #[.pointer (some ⟨g, 0, none⟩), .pointer (some ⟨h, 0, none⟩)] w (RT W0 g h (fun t k w' => St W0 m base g h A c p st ne t k w') (pointL p k t)) := by
  have HS0 := Aside0.mk S
  have hgh := S.hn
  have hgh2 := Ne.symm S.hn
  have HL : Aside0 (pointL p k t = .error (132, st)) := ⟨by unfold pointL; rw [hq, thenF_ok, hN, hX]; unfold pointE; rw [hp, thenF_ok, if_pos (.inl h0), hst]⟩
  rw [hst] at hq
  have HQ := Aside0.mk hq
  have HRUN : Aside0 (∀ W, St W0 m base g h A c p st ne t (k + 1) W → Calls Tryz.prog 149 #[.pointer (some ⟨g, 0, none⟩), .int .i64 6, .func (.func 150) #[] #[]] W fun e w' => e = .returned (.string s) ∧ St W0 m base g h A c p st ne t (k + 1 + N) w') := ⟨fun W hS => by have h := sRun hS _ hexB 6 (by omega) cf_hex hex_pays; rw [hN, hX, hs] at h; exact h⟩
  have HP := Aside0.mk hp
  subst h0
  have hs2 : s = ⟨#[]⟩ := by rw [← hs]; rfl
  subst hs2
  have hr0 : runeB 0 = true := by decide
  clear S hst hk hq hN hX hs hp
  go_enter Tryz.func112, Tryz.ntmps112
  go_wp2_with fail
  refine (sNeed HS0.out 123 132).mono ?_
  intro e w1 hr
  rw [HQ.out] at hr
  obtain ⟨rfl, hS⟩ := hr
  have HS1 := Aside0.mk hS
  clear hS
  go_wp2_with fail
  refine (HRUN.out _ HS1.out).mono ?_
  intro e w2 hr
  obtain ⟨rfl, hS⟩ := hr
  have HS2 := Aside0.mk hS
  clear hS
  go_wp2_with fail
  refine (sPeek HS2.out).mono ?_
  intro e w3 hr
  rw [HP.out] at hr
  obtain ⟨rfl, hS⟩ := hr
  have HS3 := Aside0.mk hS
  clear hS
  obtain ⟨ev, hv, hev⟩ := HS3.out.vr.syn
  have HV := Aside0.mk hv
  have HEV := Aside0.mk hev
  clear hv hev
  go_wp2_with fail
  refine (parseIntEmpty _ _ HV.out HEV.out).mono ?_
  rintro e w4 ⟨Nn, rfl, hb⟩
  have HS4 := Aside0.mk (HS3.out.stay hb)
  clear hb
  go_wp2_with fail
  refine (encode_any 0 _).mono ?_
  rintro e w5 ⟨ve, rfl, -, hb⟩
  have HS5 := Aside0.mk (HS4.out.stay hb)
  clear hb
  go_wp2_with fail
  refine (sFail HS5.out 132).mono ?_
  intro e w6 hr
  obtain ⟨rfl, hB⟩ := hr
  have HBE := Aside0.mk hB
  clear hB
  go_wp2
  rw [HL.out]
  exact ⟨rfl, rfl, HBE.out⟩
set_option maxHeartbeats 8000000 in
set_option maxRecDepth 100000 in
theorem point_rune (S : St W0 m base g h A c p st ne t k w) (hst : t.st = st) (hk : st ≤ k) (hq : needL p t.st k 123 132 = .ok (k + 1)) (N : Nat) (X : List Int) (hN : runN hexB 6 (p.drop (k + 1)) = N) (hX : (p.drop (k + 1)).take N = X) (s : ByteArray) (hs : strOfNums X = s) (y : Int) (hp : peekL p (k + 1 + N) = .ok y) (h0 : X ≠ []) (h6 : X.length ≤ 6) (hh : ∀ c ∈ X, hexB c = true) (hrb : runeB (hexN X) = false) :
    Calls Tryz.prog 112 #[.pointer (some ⟨g, 0, none⟩), .pointer (some ⟨h, 0, none⟩)] w (RT W0 g h (fun t k w' => St W0 m base g h A c p st ne t k w') (pointL p k t)) := by
  have HS0 := Aside0.mk S
  have hgh := S.hn
  have hgh2 := Ne.symm S.hn
  have HL : Aside0 (pointL p k t = .error (132, st)) := ⟨by unfold pointL; rw [hq, thenF_ok, hN, hX]; unfold pointE; rw [hp, thenF_ok, if_pos (.inr hrb), hst]⟩
  rw [hst] at hq
  have HQ := Aside0.mk hq
  have HRUN : Aside0 (∀ W, St W0 m base g h A c p st ne t (k + 1) W → Calls Tryz.prog 149 #[.pointer (some ⟨g, 0, none⟩), .int .i64 6, .func (.func 150) #[] #[]] W fun e w' => e = .returned (.string s) ∧ St W0 m base g h A c p st ne t (k + 1 + N) w') := ⟨fun W hS => by have h := sRun hS _ hexB 6 (by omega) cf_hex hex_pays; rw [hN, hX, hs] at h; exact h⟩
  have HP := Aside0.mk hp
  have HPI : Aside0 (∀ W, Calls Tryz.prog 151 #[.string s, .int .i64 16, .int .i64 64] W fun e w' => e = .returned (.tuple #[.int .i64 (hexN X), .nilIface]) ∧ Below W.heap.size W w') := ⟨fun W => by have h := parseInt16 X W h0 h6 hh; rw [hs] at h; exact h⟩
  have hb16 : 0 ≤ hexN X ∧ hexN X < 16777216 := by
    have h1 := hexN_rng X.length X rfl hh
    have key : ∀ k : Nat, k ≤ 6 → (16 : Int) ^ k ≤ 16777216 := by
      intro k hk
      have h7 : k < 7 := by omega
      clear hk
      revert k
      decide
    have h2 := key _ h6
    omega
  have HEN : Aside0 (∀ W, Calls Tryz.prog 37 #[.int .i64 (hexN X)] W fun e w' => ∃ v : Value, e = .returned (.tuple #[v, .bool false]) ∧ True ∧ Below W.heap.size W w') := ⟨fun W => (encode_any (hexN X) W).mono fun e w' ⟨v, h1, _, h3⟩ => ⟨v, by rw [h1, hrb], trivial, h3⟩⟩
  obtain ⟨nx, hnx⟩ : ∃ nx, hexN X = nx := ⟨_, rfl⟩
  rw [hnx] at HPI HEN hb16
  clear S hst hk hq hN hX hs hp h0 h6 hh hrb hnx
  go_enter Tryz.func112, Tryz.ntmps112
  go_wp2_with fail
  refine (sNeed HS0.out 123 132).mono ?_
  intro e w1 hr
  rw [HQ.out] at hr
  obtain ⟨rfl, hS⟩ := hr
  have HS1 := Aside0.mk hS
  clear hS
  go_wp2_with fail
  refine (HRUN.out _ HS1.out).mono ?_
  intro e w2 hr
  obtain ⟨rfl, hS⟩ := hr
  have HS2 := Aside0.mk hS
  clear hS
  go_wp2_with fail
  refine (sPeek HS2.out).mono ?_
  intro e w3 hr
  rw [HP.out] at hr
  obtain ⟨rfl, hS⟩ := hr
  have HS3 := Aside0.mk hS
  clear hS
  go_wp2_with fail
  refine (HPI.out _).mono ?_
  rintro e w4 ⟨rfl, hb⟩
  have HS4 := Aside0.mk (HS3.out.stay hb)
  clear hb
  go_wp2_with fail
  refine (HEN.out _).mono ?_
  rintro e w5 ⟨ve, rfl, -, hb⟩
  have HS5 := Aside0.mk (HS4.out.stay hb)
  clear hb
  go_wp2_with fail
  refine (sFail HS5.out 132).mono ?_
  intro e w6 hr
  obtain ⟨rfl, hB⟩ := hr
  have HBE := Aside0.mk hB
  clear hB
  go_wp2
  rw [HL.out]
  exact ⟨rfl, rfl, HBE.out⟩
set_option maxHeartbeats 8000000 in
set_option maxRecDepth 100000 in
theorem point_noend (S : St W0 m base g h A c p st ne t k w) (hst : t.st = st) (hk : st ≤ k) (hq : needL p t.st k 123 132 = .ok (k + 1)) (N : Nat) (X : List Int) (hN : runN hexB 6 (p.drop (k + 1)) = N) (hX : (p.drop (k + 1)).take N = X) (s : ByteArray) (hs : strOfNums X = s) (y : Int) (hp : peekL p (k + 1 + N) = .ok y) (h0 : X ≠ []) (h6 : X.length ≤ 6) (hh : ∀ c ∈ X, hexB c = true) (hrb : runeB (hexN X) = true) (x : Int × Nat) (hz : needL p st (k + 1 + N) 125 132 = .error x) :
    Calls Tryz.prog 112 #[.pointer (some ⟨g, 0, none⟩), .pointer (some ⟨h, 0, none⟩)] w (RT W0 g h (fun t k w' => St W0 m base g h A c p st ne t k w') (pointL p k t)) := by
  have HS0 := Aside0.mk S
  have hgh := S.hn
  have hgh2 := Ne.symm S.hn
  have HL : Aside0 (pointL p k t = .error x) := ⟨by unfold pointL; rw [hq, thenF_ok, hN, hX]; unfold pointE; rw [hp, thenF_ok, if_neg (fun q => q.elim h0 (by rw [hrb]; decide)), hst, hz, thenF_err]⟩
  rw [hst] at hq
  have HQ := Aside0.mk hq
  have HRUN : Aside0 (∀ W, St W0 m base g h A c p st ne t (k + 1) W → Calls Tryz.prog 149 #[.pointer (some ⟨g, 0, none⟩), .int .i64 6, .func (.func 150) #[] #[]] W fun e w' => e = .returned (.string s) ∧ St W0 m base g h A c p st ne t (k + 1 + N) w') := ⟨fun W hS => by have h := sRun hS _ hexB 6 (by omega) cf_hex hex_pays; rw [hN, hX, hs] at h; exact h⟩
  have HP := Aside0.mk hp
  have HPI : Aside0 (∀ W, Calls Tryz.prog 151 #[.string s, .int .i64 16, .int .i64 64] W fun e w' => e = .returned (.tuple #[.int .i64 (hexN X), .nilIface]) ∧ Below W.heap.size W w') := ⟨fun W => by have h := parseInt16 X W h0 h6 hh; rw [hs] at h; exact h⟩
  have hb16 : 0 ≤ hexN X ∧ hexN X < 16777216 := by
    have h1 := hexN_rng X.length X rfl hh
    have key : ∀ k : Nat, k ≤ 6 → (16 : Int) ^ k ≤ 16777216 := by
      intro k hk
      have h7 : k < 7 := by omega
      clear hk
      revert k
      decide
    have h2 := key _ h6
    omega
  have HZ := Aside0.mk hz
  have HEN : Aside0 (∀ W, Calls Tryz.prog 37 #[.int .i64 (hexN X)] W fun e w' => ∃ v : Value, e = .returned (.tuple #[v, .bool true]) ∧ True ∧ Below W.heap.size W w') := ⟨fun W => (encode_any (hexN X) W).mono fun e w' ⟨v, h1, _, h3⟩ => ⟨v, by rw [h1, hrb], trivial, h3⟩⟩
  obtain ⟨nx, hnx⟩ : ∃ nx, hexN X = nx := ⟨_, rfl⟩
  rw [hnx] at HPI HEN hb16
  clear S hst hk hq hN hX hs hp h0 h6 hh hrb hnx hz
  go_enter Tryz.func112, Tryz.ntmps112
  go_wp2_with fail
  refine (sNeed HS0.out 123 132).mono ?_
  intro e w1 hr
  rw [HQ.out] at hr
  obtain ⟨rfl, hS⟩ := hr
  have HS1 := Aside0.mk hS
  clear hS
  go_wp2_with fail
  refine (HRUN.out _ HS1.out).mono ?_
  intro e w2 hr
  obtain ⟨rfl, hS⟩ := hr
  have HS2 := Aside0.mk hS
  clear hS
  go_wp2_with fail
  refine (sPeek HS2.out).mono ?_
  intro e w3 hr
  rw [HP.out] at hr
  obtain ⟨rfl, hS⟩ := hr
  have HS3 := Aside0.mk hS
  clear hS
  go_wp2_with fail
  refine (HPI.out _).mono ?_
  rintro e w4 ⟨rfl, hb⟩
  have HS4 := Aside0.mk (HS3.out.stay hb)
  clear hb
  go_wp2_with fail
  refine (HEN.out _).mono ?_
  rintro e w5 ⟨ve, rfl, -, hb⟩
  have HS5 := Aside0.mk (HS4.out.stay hb)
  clear hb
  go_wp2_with fail
  refine (sNeed HS5.out 125 132).mono ?_
  intro e w6 hr
  rw [HZ.out] at hr
  obtain ⟨rfl, hB⟩ := hr
  have HBE := Aside0.mk hB
  clear hB
  go_wp2
  rw [HL.out]
  exact ⟨rfl, rfl, HBE.out⟩
set_option maxHeartbeats 8000000 in
set_option maxRecDepth 100000 in
theorem point_brace (S : St W0 m base g h A c p st ne t k w) (hst : t.st = st) (hk : st ≤ k) (hq : needL p t.st k 123 132 = .ok (k + 1)) (N : Nat) (X : List Int) (hN : runN hexB 6 (p.drop (k + 1)) = N) (hX : (p.drop (k + 1)).take N = X) (s : ByteArray) (hs : strOfNums X = s) (y : Int) (hp : peekL p (k + 1 + N) = .ok y) (h0 : X ≠ []) (h6 : X.length ≤ 6) (hh : ∀ c ∈ X, hexB c = true) (hrb : runeB (hexN X) = true) (k3 : Nat) (hz : needL p st (k + 1 + N) 125 132 = .ok k3) :
    Calls Tryz.prog 112 #[.pointer (some ⟨g, 0, none⟩), .pointer (some ⟨h, 0, none⟩)] w (RT W0 g h (fun t k w' => St W0 m base g h A c p st ne t k w') (pointL p k t)) := by
  have HS0 := Aside0.mk S
  have hgh := S.hn
  have hgh2 := Ne.symm S.hn
  have HL : Aside0 (pointL p k t = .ok ({ t with kind := 1, a := hexN X }, k3)) := ⟨by unfold pointL; rw [hq, thenF_ok, hN, hX]; unfold pointE; rw [hp, thenF_ok, if_neg (fun q => q.elim h0 (by rw [hrb]; decide)), hst, hz, thenF_ok]⟩
  rw [hst] at hq
  have HQ := Aside0.mk hq
  have HRUN : Aside0 (∀ W, St W0 m base g h A c p st ne t (k + 1) W → Calls Tryz.prog 149 #[.pointer (some ⟨g, 0, none⟩), .int .i64 6, .func (.func 150) #[] #[]] W fun e w' => e = .returned (.string s) ∧ St W0 m base g h A c p st ne t (k + 1 + N) w') := ⟨fun W hS => by have h := sRun hS _ hexB 6 (by omega) cf_hex hex_pays; rw [hN, hX, hs] at h; exact h⟩
  have HP := Aside0.mk hp
  have HPI : Aside0 (∀ W, Calls Tryz.prog 151 #[.string s, .int .i64 16, .int .i64 64] W fun e w' => e = .returned (.tuple #[.int .i64 (hexN X), .nilIface]) ∧ Below W.heap.size W w') := ⟨fun W => by have h := parseInt16 X W h0 h6 hh; rw [hs] at h; exact h⟩
  have hb16 : 0 ≤ hexN X ∧ hexN X < 16777216 := by
    have h1 := hexN_rng X.length X rfl hh
    have key : ∀ k : Nat, k ≤ 6 → (16 : Int) ^ k ≤ 16777216 := by
      intro k hk
      have h7 : k < 7 := by omega
      clear hk
      revert k
      decide
    have h2 := key _ h6
    omega
  have HZ := Aside0.mk hz
  have HEN : Aside0 (∀ W, Calls Tryz.prog 37 #[.int .i64 (hexN X)] W fun e w' => ∃ v : Value, e = .returned (.tuple #[v, .bool true]) ∧ True ∧ Below W.heap.size W w') := ⟨fun W => (encode_any (hexN X) W).mono fun e w' ⟨v, h1, _, h3⟩ => ⟨v, by rw [h1, hrb], trivial, h3⟩⟩
  obtain ⟨nx, hnx⟩ : ∃ nx, hexN X = nx := ⟨_, rfl⟩
  rw [hnx] at HPI HEN hb16 HL
  clear S hst hk hq hN hX hs hp h0 h6 hh hrb hnx hz
  go_enter Tryz.func112, Tryz.ntmps112
  go_wp2_with fail
  refine (sNeed HS0.out 123 132).mono ?_
  intro e w1 hr
  rw [HQ.out] at hr
  obtain ⟨rfl, hS⟩ := hr
  have HS1 := Aside0.mk hS
  clear hS
  go_wp2_with fail
  refine (HRUN.out _ HS1.out).mono ?_
  intro e w2 hr
  obtain ⟨rfl, hS⟩ := hr
  have HS2 := Aside0.mk hS
  clear hS
  go_wp2_with fail
  refine (sPeek HS2.out).mono ?_
  intro e w3 hr
  rw [HP.out] at hr
  obtain ⟨rfl, hS⟩ := hr
  have HS3 := Aside0.mk hS
  clear hS
  go_wp2_with fail
  refine (HPI.out _).mono ?_
  rintro e w4 ⟨rfl, hb⟩
  have HS4 := Aside0.mk (HS3.out.stay hb)
  clear hb
  go_wp2_with fail
  refine (HEN.out _).mono ?_
  rintro e w5 ⟨ve, rfl, -, hb⟩
  have HS5 := Aside0.mk (HS4.out.stay hb)
  clear hb
  go_wp2_with fail
  refine (sNeed HS5.out 125 132).mono ?_
  intro e w6 hr
  rw [HZ.out] at hr
  obtain ⟨rfl, hS⟩ := hr
  have HS6 := Aside0.mk hS
  clear hS
  have fc6_0 := HS6.out.cell 0 _ rfl
  have fr6_0 := HS6.out.free 0
  have fc6_1 := HS6.out.cell 2 _ rfl
  have fr6_1 := HS6.out.free 2
  go_wp2
  go_end0
  rw [HL.out]
  exact ⟨rfl, ((HS6.out.setT 0 _ { t with kind := 1 } rfl).setT 2 _ { t with kind := 1, a := nx } rfl)⟩
theorem point_any (S : St W0 m base g h A c p st ne t k w) (hst : t.st = st) (hk : st ≤ k) :
    Calls Tryz.prog 112 #[.pointer (some ⟨g, 0, none⟩), .pointer (some ⟨h, 0, none⟩)] w (RT W0 g h (fun t k w' => St W0 m base g h A c p st ne t k w') (pointL p k t)) := by
  cases hq : needL p t.st k 123 132 with
  | error x => exact point_nobrace S hst hk x hq
  | ok k1 =>
    obtain rfl := (need_ok hq).1
    cases hp : peekL p (k + 1 + runN hexB 6 (p.drop (k + 1))) with
    | error x => exact point_end S hst hk hq _ _ rfl rfl _ rfl x hp
    | ok y =>
      by_cases h0 : (p.drop (k + 1)).take (runN hexB 6 (p.drop (k + 1))) = []
      · exact point_none S hst hk hq _ _ rfl rfl _ rfl y hp h0
      · have h6 : ((p.drop (k + 1)).take (runN hexB 6 (p.drop (k + 1)))).length ≤ 6 := by have := runN_le hexB 6 (p.drop (k + 1)); rw [List.length_take]; omega
        have hh := run_digits hexB 6 (p.drop (k + 1))
        cases hrb : runeB (hexN ((p.drop (k + 1)).take (runN hexB 6 (p.drop (k + 1))))) with
        | false => exact point_rune S hst hk hq _ _ rfl rfl _ rfl y hp h0 h6 hh hrb
        | true =>
          cases hz : needL p st (k + 1 + runN hexB 6 (p.drop (k + 1))) 125 132 with
          | error x => exact point_noend S hst hk hq _ _ rfl rfl _ rfl y hp h0 h6 hh hrb x hz
          | ok k3 => exact point_brace S hst hk hq _ _ rfl rfl _ rfl y hp h0 h6 hh hrb k3 hz
end

end Go.Proofs.YtkipjalfgdfaiaaGreatDoor
namespace Go.Proofs.YtkipjalfgdfaiaaGreatDoor
set_option linter.unusedVariables false
set_option linter.unusedSimpArgs false
open Go.RowKit Go.Proofs.YtkipjalfgdfaiaaGreatDoorW.PrintWords Go.Proofs.YtkipjalfgdfaiaaGreatDoorW.PrintLast Go.Proofs.YtkipjalfgdfaiaaGreatDoorW.PrintMore Go.Proofs.YtkipjalfgdfaiaaGreatDoor.PTk

theorem enc_ch (c : Int) (h0 : 0 ≤ c) (h1 : c < 128) : Utf8.encode c = chB c := by
  have key : ∀ n : Nat, n < 128 → (Utf8.encode (n : Int)).data.toList = (strOfNums [(n : Int)]).data.toList := by decide +kernel
  have h := key c.toNat (by omega)
  rw [Int.toNat_of_nonneg h0] at h
  exact ByteArray.ext (Array.toList_inj.1 h)
theorem conv_ch (c : Int) (h0 : 0 ≤ c) (h1 : c < 128) (W : World) : (convert 21 9 (.int .i32 c)).run Tryz.prog W = .ok (.string (chB c)) W := by
  have h := run_convert_int_string (P := Tryz.prog) W 21 9 .i32 c (by kernel_rfl) Tryz.underlying9
  rw [enc_ch c h0 h1] at h
  exact h
def clsB (c : Int) : Bool := [100, 119, 115, 68, 87, 83].contains c
theorem cany_any (c : Int) (h0 : 0 ≤ c) (h1 : c < 128) (W : World) : Calls Tryz.prog 110 #[.string (chB c), .string ⟨#[100, 119, 115, 68, 87, 83]⟩] W fun e w' => e = .returned (.bool (clsB c)) ∧ Below W.heap.size W w' := by
  have key : ∀ n : Nat, n < 128 → Lib.containsAny (strOfNums [(n : Int)]).data.toList (⟨#[100, 119, 115, 68, 87, 83]⟩ : ByteArray).data.toList = clsB (n : Int) := by decide +kernel
  have h := key c.toNat (by omega)
  rw [Int.toNat_of_nonneg h0] at h
  have hd : (chB c).data.toList = [UInt8.ofNat c.toNat] := rfl
  refine (Tryz.strings_ContainsAny_laid (chB c) ⟨#[100, 119, 115, 68, 87, 83]⟩ W (by show (strOfNums [c]).size < _; rw [strN_size]; simp) (by decide) (fun j b hb => ?_) (fun j b hb => ?_)).mono ?_
  · rw [hd] at hb
    have hm := List.mem_of_getElem? hb
    simp only [List.mem_cons, List.not_mem_nil, or_false] at hm
    rw [hm, UInt8.toNat_ofNat']
    omega
  · have hm := List.mem_of_getElem? hb
    have key2 : ∀ b ∈ (⟨#[100, 119, 115, 68, 87, 83]⟩ : ByteArray).data.toList, b.toNat < 128 := by decide
    exact key2 b hm
  · rintro e w' ⟨rfl, hb⟩
    exact ⟨by rw [← h]; rfl, hb⟩
theorem clsB_of {c : Int} (h : c = 100 ∨ c = 119 ∨ c = 115 ∨ c = 68 ∨ c = 87 ∨ c = 83) : clsB c = true := by
  rcases h with rfl | rfl | rfl | rfl | rfl | rfl <;> decide
section
variable {W0 w : World} {m : Int} {base g h : Nat} {A : Option Addr} {c : Nat} {p : List Int} {st ne k : Nat} {t : Tk}
set_option maxHeartbeats 8000000 in
set_option maxRecDepth 100000 in
theorem esc_end (b : ByteArray) (hal : AliasIs b) (S : St W0 m base g h A c p st ne t k w) (hst : t.st = st) (hk : st ≤ k) (x : Int × Nat) (hp : peekL p k = .error x) :
    Calls Tryz.prog 76 #[.pointer (some ⟨g, 0, none⟩), .pointer (some ⟨h, 0, none⟩)] w (RT W0 g h (fun t k w' => St W0 m base g h A c p st ne t k w') (escapeL (resolveL (rowsB b)) p ne k t)) := by
  have HS0 := Aside0.mk S
  have hgh := S.hn
  have hgh2 := Ne.symm S.hn
  have HL : Aside0 (escapeL (resolveL (rowsB b)) p ne k t = .error x) := ⟨by unfold escapeL; rw [hp, thenF_err]⟩
  have HP := Aside0.mk hp
  clear S hst hk hp
  go_enter Tryz.func76, Tryz.ntmps76
  go_wp2_with fail
  refine (sPeek HS0.out).mono ?_
  intro e w1 hr
  rw [HP.out] at hr
  obtain ⟨rfl, hB⟩ := hr
  have HBE := Aside0.mk hB
  clear hB
  go_wp2
  rw [HL.out]
  exact ⟨rfl, rfl, HBE.out⟩
set_option maxHeartbeats 8000000 in
set_option maxRecDepth 100000 in
theorem esc_bytes (b : ByteArray) (hal : AliasIs b) (S : St W0 m base g h A c p st ne t k w) (hst : t.st = st) (hk : st ≤ k) (y : Int) (hp : peekL p k = .ok y) (x : Int × Nat) (hc : charL p k = .error x) :
    Calls Tryz.prog 76 #[.pointer (some ⟨g, 0, none⟩), .pointer (some ⟨h, 0, none⟩)] w (RT W0 g h (fun t k w' => St W0 m base g h A c p st ne t k w') (escapeL (resolveL (rowsB b)) p ne k t)) := by
  have HS0 := Aside0.mk S
  have hgh := S.hn
  have hgh2 := Ne.symm S.hn
  have HL : Aside0 (escapeL (resolveL (rowsB b)) p ne k t = .error x) := ⟨by unfold escapeL; rw [hp, thenF_ok, hc, thenF_err]⟩
  have HP := Aside0.mk hp
  have HC := Aside0.mk hc
  have hkl := (peek_ok hp).1
  clear S hst hk hp hc
  go_enter Tryz.func76, Tryz.ntmps76
  go_wp2_with fail
  refine (sPeek HS0.out).mono ?_
  intro e w1 hr
  rw [HP.out] at hr
  obtain ⟨rfl, hS⟩ := hr
  have HS1 := Aside0.mk hS
  clear hS
  go_wp2_with fail
  refine (sChar HS1.out hkl).mono ?_
  intro e w2 hr
  rw [HC.out] at hr
  obtain ⟨rfl, hB⟩ := hr
  have HBE := Aside0.mk hB
  clear hB
  go_wp2
  rw [HL.out]
  exact ⟨rfl, rfl, HBE.out⟩
set_option maxHeartbeats 8000000 in
set_option maxRecDepth 100000 in
theorem esc_high (b : ByteArray) (hal : AliasIs b) (S : St W0 m base g h A c p st ne t k w) (hst : t.st = st) (hk : st ≤ k) (ch : Int) (y : Int) (hp : peekL p k = .ok y) (k1 : Nat) (hc : charL p k = .ok (ch, k1)) (h128 : 128 ≤ ch) :
    Calls Tryz.prog 76 #[.pointer (some ⟨g, 0, none⟩), .pointer (some ⟨h, 0, none⟩)] w (RT W0 g h (fun t k w' => St W0 m base g h A c p st ne t k w') (escapeL (resolveL (rowsB b)) p ne k t)) := by
  have HS0 := Aside0.mk S
  have hgh := S.hn
  have hgh2 := Ne.symm S.hn
  have hkl := (peek_ok hp).1
  obtain ⟨nb, -, hk1, hn1, hn2⟩ := char_ok hc
  have hsk1 : st ≤ k1 := by omega
  have HSK := Aside0.mk hsk1
  have HST := Aside0.mk hst
  have HAL := Aside0.mk hal
  have HL : Aside0 (escapeL (resolveL (rowsB b)) p ne k t = .ok ({ t with kind := 1, a := ch }, k1)) := ⟨by unfold escapeL; rw [hp, thenF_ok, hc, thenF_ok]; show escL (resolveL (rowsB b)) p ne ch k1 t = _; unfold escL; rw [if_pos (.inl h128)]⟩
  have HP := Aside0.mk hp
  have HC := Aside0.mk hc
  have hd := decide_eq_true h128
  clear S hst hk hp hc hk1 hn1 hn2 hsk1 hal
  go_enter Tryz.func76, Tryz.ntmps76
  go_wp2_with fail
  refine (sPeek HS0.out).mono ?_
  intro e w1 hr
  rw [HP.out] at hr
  obtain ⟨rfl, hS⟩ := hr
  have HS1 := Aside0.mk hS
  clear hS
  go_wp2_with fail
  refine (sChar HS1.out hkl).mono ?_
  intro e w2 hr
  rw [HC.out] at hr
  obtain ⟨rfl, hS⟩ := hr
  have HS2 := Aside0.mk hS
  clear hS
  have fc2_0 := HS2.out.cell 0 _ rfl
  have fr2_0 := HS2.out.free 0
  have fc2_1 := HS2.out.cell 1 _ rfl
  have fr2_1 := HS2.out.free 1
  have fc2_2 := HS2.out.cell 2 _ rfl
  have fr2_2 := HS2.out.free 2
  have fc2_3 := HS2.out.cell 4 _ rfl
  have fr2_3 := HS2.out.free 4
  have fc2_4 := HS2.out.cell 5 _ rfl
  have fr2_4 := HS2.out.free 5
  have ce2_0 := HS2.out.nest
  go_wp2
  go_end0
  rw [HL.out]
  exact ⟨rfl, ((HS2.out.setT 0 _ { t with kind := 1 } rfl).setT 2 _ { t with kind := 1, a := ch } rfl)⟩
set_option maxHeartbeats 8000000 in
set_option maxRecDepth 100000 in
theorem esc_plain (b : ByteArray) (hal : AliasIs b) (S : St W0 m base g h A c p st ne t k w) (hst : t.st = st) (hk : st ≤ k) (ch : Int) (y : Int) (hp : peekL p k = .ok y) (k1 : Nat) (hc : charL p k = .ok (ch, k1)) (h0 : 0 ≤ ch) (h1 : ch < 128) (hlt : letB ch = false) (hdg : digB ch = false) :
    Calls Tryz.prog 76 #[.pointer (some ⟨g, 0, none⟩), .pointer (some ⟨h, 0, none⟩)] w (RT W0 g h (fun t k w' => St W0 m base g h A c p st ne t k w') (escapeL (resolveL (rowsB b)) p ne k t)) := by
  have HS0 := Aside0.mk S
  have hgh := S.hn
  have hgh2 := Ne.symm S.hn
  have hkl := (peek_ok hp).1
  obtain ⟨nb, -, hk1, hn1, hn2⟩ := char_ok hc
  have hsk1 : st ≤ k1 := by omega
  have HSK := Aside0.mk hsk1
  have HST := Aside0.mk hst
  have HAL := Aside0.mk hal
  have HL : Aside0 (escapeL (resolveL (rowsB b)) p ne k t = .ok ({ t with kind := 1, a := ch }, k1)) := ⟨by unfold escapeL; rw [hp, thenF_ok, hc, thenF_ok]; show escL (resolveL (rowsB b)) p ne ch k1 t = _; unfold escL; rw [if_pos (.inr ⟨hlt, hdg⟩)]⟩
  have HP := Aside0.mk hp
  have HC := Aside0.mk hc
  have hd : decide (128 ≤ ch) = false := decide_eq_false (by omega)
  have HLT : Aside0 (∀ W, Calls Tryz.prog 108 #[.int .u8 ch] W fun e w' => e = .returned (.bool false) ∧ Drawn0 W w') := ⟨fun W => by have h := let_pays W ch (by omega) (by omega); rw [hlt] at h; exact h⟩
  have HDG : Aside0 (∀ W, Calls Tryz.prog 109 #[.int .u8 ch] W fun e w' => e = .returned (.bool false) ∧ Drawn0 W w') := ⟨fun W => by have h := dig_pays W ch (by omega) (by omega); rw [hdg] at h; exact h⟩
  clear S hst hk hp hc hk1 hn1 hn2 hsk1 hal hlt hdg
  go_enter Tryz.func76, Tryz.ntmps76
  go_wp2_with fail
  refine (sPeek HS0.out).mono ?_
  intro e w1 hr
  rw [HP.out] at hr
  obtain ⟨rfl, hS⟩ := hr
  have HS1 := Aside0.mk hS
  clear hS
  go_wp2_with fail
  refine (sChar HS1.out hkl).mono ?_
  intro e w2 hr
  rw [HC.out] at hr
  obtain ⟨rfl, hS⟩ := hr
  have HS2 := Aside0.mk hS
  clear hS
  have fc2_0 := HS2.out.cell 0 _ rfl
  have fr2_0 := HS2.out.free 0
  have fc2_1 := HS2.out.cell 1 _ rfl
  have fr2_1 := HS2.out.free 1
  have fc2_2 := HS2.out.cell 2 _ rfl
  have fr2_2 := HS2.out.free 2
  have fc2_3 := HS2.out.cell 4 _ rfl
  have fr2_3 := HS2.out.free 4
  have fc2_4 := HS2.out.cell 5 _ rfl
  have fr2_4 := HS2.out.free 5
  have ce2_0 := HS2.out.nest
  go_wp2_with fail
  refine (HLT.out _).mono ?_
  rintro e w8 ⟨rfl, ⟨nd, rfl⟩⟩
  go_wp2_with fail
  refine (HDG.out _).mono ?_
  rintro e w9 ⟨rfl, ⟨nd2, rfl⟩⟩
  go_wp2
  go_end0
  rw [HL.out]
  exact ⟨rfl, (((HS2.out.setT 0 _ { t with kind := 1 } rfl).draw _).setT 2 _ { t with kind := 1, a := ch } rfl)⟩
set_option maxHeartbeats 8000000 in
set_option maxRecDepth 100000 in
theorem esc_cls100 (b : ByteArray) (hal : AliasIs b) (S : St W0 m base g h A c p st ne t k w) (hst : t.st = st) (hk : st ≤ k) (y : Int) (hp : peekL p k = .ok y) (k1 : Nat) (hc : charL p k = .ok (100, k1)) :
    Calls Tryz.prog 76 #[.pointer (some ⟨g, 0, none⟩), .pointer (some ⟨h, 0, none⟩)] w (RT W0 g h (fun t k w' => St W0 m base g h A c p st ne t k w') (escapeL (resolveL (rowsB b)) p ne k t)) := by
  have HS0 := Aside0.mk S
  have hgh := S.hn
  have hgh2 := Ne.symm S.hn
  have hkl := (peek_ok hp).1
  obtain ⟨nb, -, hk1, hn1, hn2⟩ := char_ok hc
  have hsk1 : st ≤ k1 := by omega
  have HSK := Aside0.mk hsk1
  have HST := Aside0.mk hst
  have HAL := Aside0.mk hal
  have HL : Aside0 (escapeL (resolveL (rowsB b)) p ne k t = .ok ({ t with kind := 8, name := chB 100, neg := false }, k1)) := ⟨by unfold escapeL; rw [hp, thenF_ok, hc, thenF_ok]; show escL (resolveL (rowsB b)) p ne 100 k1 t = _; unfold escL; rw [if_neg (by decide), if_pos (by decide)]; rfl⟩
  have HP := Aside0.mk hp
  have HC := Aside0.mk hc
  have hlt : letB 100 = true := by decide
  have hcl : clsB 100 = true := by decide
  have HCA : Aside0 (∀ W, Calls Tryz.prog 110 #[.string (chB 100), .string ⟨#[100, 119, 115, 68, 87, 83]⟩] W fun e w' => e = .returned (.bool true) ∧ Below W.heap.size W w') := ⟨fun W => by have h := cany_any 100 (by omega) (by omega) W; rw [hcl] at h; exact h⟩
  have hcv := fun W => conv_ch 100 (by omega) (by omega) W
  have hor : bits .or .i64 100 32 = 100 := by kernel_rfl
  have HLT : Aside0 (∀ W, Calls Tryz.prog 108 #[.int .u8 100] W fun e w' => e = .returned (.bool true) ∧ Drawn0 W w') := ⟨fun W => by have h := let_pays W 100 (by omega) (by omega); rw [hlt] at h; exact h⟩
  clear S hst hk hp hc hk1 hn1 hn2 hsk1 hal hlt hcl
  go_enter Tryz.func76, Tryz.ntmps76
  go_wp2_with fail
  refine (sPeek HS0.out).mono ?_
  intro e w1 hr
  rw [HP.out] at hr
  obtain ⟨rfl, hS⟩ := hr
  have HS1 := Aside0.mk hS
  clear hS
  go_wp2_with fail
  refine (sChar HS1.out hkl).mono ?_
  intro e w2 hr
  rw [HC.out] at hr
  obtain ⟨rfl, hS⟩ := hr
  have HS2 := Aside0.mk hS
  clear hS
  have fc2_0 := HS2.out.cell 0 _ rfl
  have fr2_0 := HS2.out.free 0
  have fc2_1 := HS2.out.cell 1 _ rfl
  have fr2_1 := HS2.out.free 1
  have fc2_2 := HS2.out.cell 2 _ rfl
  have fr2_2 := HS2.out.free 2
  have fc2_3 := HS2.out.cell 4 _ rfl
  have fr2_3 := HS2.out.free 4
  have fc2_4 := HS2.out.cell 5 _ rfl
  have fr2_4 := HS2.out.free 5
  have ce2_0 := HS2.out.nest
  go_wp2_with fail
  refine (HLT.out _).mono ?_
  rintro e w8 ⟨rfl, ⟨nd, rfl⟩⟩
  go_wp2_with fail
  refine (HCA.out _).mono ?_
  intro e w3 hr
  obtain ⟨rfl, hb⟩ := hr
  have HS3 := Aside0.mk (((HS2.out.setT 0 _ { t with kind := 1 } rfl).draw _).stay hb)
  clear hb
  have fc3_0 := HS3.out.cell 0 _ rfl
  have fr3_0 := HS3.out.free 0
  have fc3_1 := HS3.out.cell 4 _ rfl
  have fr3_1 := HS3.out.free 4
  have fc3_2 := HS3.out.cell 5 _ rfl
  have fr3_2 := HS3.out.free 5
  go_wp2
  go_end0
  rw [HL.out]
  exact ⟨rfl, (((HS3.out.setT 0 _ { t with kind := 8 } rfl).setT 4 _ { t with kind := 8, name := chB 100 } rfl).setT 5 _ { t with kind := 8, name := chB 100, neg := false } rfl)⟩
set_option maxHeartbeats 8000000 in
set_option maxRecDepth 100000 in
theorem esc_cls119 (b : ByteArray) (hal : AliasIs b) (S : St W0 m base g h A c p st ne t k w) (hst : t.st = st) (hk : st ≤ k) (y : Int) (hp : peekL p k = .ok y) (k1 : Nat) (hc : charL p k = .ok (119, k1)) :
    Calls Tryz.prog 76 #[.pointer (some ⟨g, 0, none⟩), .pointer (some ⟨h, 0, none⟩)] w (RT W0 g h (fun t k w' => St W0 m base g h A c p st ne t k w') (escapeL (resolveL (rowsB b)) p ne k t)) := by
  have HS0 := Aside0.mk S
  have hgh := S.hn
  have hgh2 := Ne.symm S.hn
  have hkl := (peek_ok hp).1
  obtain ⟨nb, -, hk1, hn1, hn2⟩ := char_ok hc
  have hsk1 : st ≤ k1 := by omega
  have HSK := Aside0.mk hsk1
  have HST := Aside0.mk hst
  have HAL := Aside0.mk hal
  have HL : Aside0 (escapeL (resolveL (rowsB b)) p ne k t = .ok ({ t with kind := 8, name := chB 119, neg := false }, k1)) := ⟨by unfold escapeL; rw [hp, thenF_ok, hc, thenF_ok]; show escL (resolveL (rowsB b)) p ne 119 k1 t = _; unfold escL; rw [if_neg (by decide), if_pos (by decide)]; rfl⟩
  have HP := Aside0.mk hp
  have HC := Aside0.mk hc
  have hlt : letB 119 = true := by decide
  have hcl : clsB 119 = true := by decide
  have HCA : Aside0 (∀ W, Calls Tryz.prog 110 #[.string (chB 119), .string ⟨#[100, 119, 115, 68, 87, 83]⟩] W fun e w' => e = .returned (.bool true) ∧ Below W.heap.size W w') := ⟨fun W => by have h := cany_any 119 (by omega) (by omega) W; rw [hcl] at h; exact h⟩
  have hcv := fun W => conv_ch 119 (by omega) (by omega) W
  have hor : bits .or .i64 119 32 = 119 := by kernel_rfl
  have HLT : Aside0 (∀ W, Calls Tryz.prog 108 #[.int .u8 119] W fun e w' => e = .returned (.bool true) ∧ Drawn0 W w') := ⟨fun W => by have h := let_pays W 119 (by omega) (by omega); rw [hlt] at h; exact h⟩
  clear S hst hk hp hc hk1 hn1 hn2 hsk1 hal hlt hcl
  go_enter Tryz.func76, Tryz.ntmps76
  go_wp2_with fail
  refine (sPeek HS0.out).mono ?_
  intro e w1 hr
  rw [HP.out] at hr
  obtain ⟨rfl, hS⟩ := hr
  have HS1 := Aside0.mk hS
  clear hS
  go_wp2_with fail
  refine (sChar HS1.out hkl).mono ?_
  intro e w2 hr
  rw [HC.out] at hr
  obtain ⟨rfl, hS⟩ := hr
  have HS2 := Aside0.mk hS
  clear hS
  have fc2_0 := HS2.out.cell 0 _ rfl
  have fr2_0 := HS2.out.free 0
  have fc2_1 := HS2.out.cell 1 _ rfl
  have fr2_1 := HS2.out.free 1
  have fc2_2 := HS2.out.cell 2 _ rfl
  have fr2_2 := HS2.out.free 2
  have fc2_3 := HS2.out.cell 4 _ rfl
  have fr2_3 := HS2.out.free 4
  have fc2_4 := HS2.out.cell 5 _ rfl
  have fr2_4 := HS2.out.free 5
  have ce2_0 := HS2.out.nest
  go_wp2_with fail
  refine (HLT.out _).mono ?_
  rintro e w8 ⟨rfl, ⟨nd, rfl⟩⟩
  go_wp2_with fail
  refine (HCA.out _).mono ?_
  intro e w3 hr
  obtain ⟨rfl, hb⟩ := hr
  have HS3 := Aside0.mk (((HS2.out.setT 0 _ { t with kind := 1 } rfl).draw _).stay hb)
  clear hb
  have fc3_0 := HS3.out.cell 0 _ rfl
  have fr3_0 := HS3.out.free 0
  have fc3_1 := HS3.out.cell 4 _ rfl
  have fr3_1 := HS3.out.free 4
  have fc3_2 := HS3.out.cell 5 _ rfl
  have fr3_2 := HS3.out.free 5
  go_wp2
  go_end0
  rw [HL.out]
  exact ⟨rfl, (((HS3.out.setT 0 _ { t with kind := 8 } rfl).setT 4 _ { t with kind := 8, name := chB 119 } rfl).setT 5 _ { t with kind := 8, name := chB 119, neg := false } rfl)⟩
set_option maxHeartbeats 8000000 in
set_option maxRecDepth 100000 in
theorem esc_cls115 (b : ByteArray) (hal : AliasIs b) (S : St W0 m base g h A c p st ne t k w) (hst : t.st = st) (hk : st ≤ k) (y : Int) (hp : peekL p k = .ok y) (k1 : Nat) (hc : charL p k = .ok (115, k1)) :
    Calls Tryz.prog 76 #[.pointer (some ⟨g, 0, none⟩), .pointer (some ⟨h, 0, none⟩)] w (RT W0 g h (fun t k w' => St W0 m base g h A c p st ne t k w') (escapeL (resolveL (rowsB b)) p ne k t)) := by
  have HS0 := Aside0.mk S
  have hgh := S.hn
  have hgh2 := Ne.symm S.hn
  have hkl := (peek_ok hp).1
  obtain ⟨nb, -, hk1, hn1, hn2⟩ := char_ok hc
  have hsk1 : st ≤ k1 := by omega
  have HSK := Aside0.mk hsk1
  have HST := Aside0.mk hst
  have HAL := Aside0.mk hal
  have HL : Aside0 (escapeL (resolveL (rowsB b)) p ne k t = .ok ({ t with kind := 8, name := chB 115, neg := false }, k1)) := ⟨by unfold escapeL; rw [hp, thenF_ok, hc, thenF_ok]; show escL (resolveL (rowsB b)) p ne 115 k1 t = _; unfold escL; rw [if_neg (by decide), if_pos (by decide)]; rfl⟩
  have HP := Aside0.mk hp
  have HC := Aside0.mk hc
  have hlt : letB 115 = true := by decide
  have hcl : clsB 115 = true := by decide
  have HCA : Aside0 (∀ W, Calls Tryz.prog 110 #[.string (chB 115), .string ⟨#[100, 119, 115, 68, 87, 83]⟩] W fun e w' => e = .returned (.bool true) ∧ Below W.heap.size W w') := ⟨fun W => by have h := cany_any 115 (by omega) (by omega) W; rw [hcl] at h; exact h⟩
  have hcv := fun W => conv_ch 115 (by omega) (by omega) W
  have hor : bits .or .i64 115 32 = 115 := by kernel_rfl
  have HLT : Aside0 (∀ W, Calls Tryz.prog 108 #[.int .u8 115] W fun e w' => e = .returned (.bool true) ∧ Drawn0 W w') := ⟨fun W => by have h := let_pays W 115 (by omega) (by omega); rw [hlt] at h; exact h⟩
  clear S hst hk hp hc hk1 hn1 hn2 hsk1 hal hlt hcl
  go_enter Tryz.func76, Tryz.ntmps76
  go_wp2_with fail
  refine (sPeek HS0.out).mono ?_
  intro e w1 hr
  rw [HP.out] at hr
  obtain ⟨rfl, hS⟩ := hr
  have HS1 := Aside0.mk hS
  clear hS
  go_wp2_with fail
  refine (sChar HS1.out hkl).mono ?_
  intro e w2 hr
  rw [HC.out] at hr
  obtain ⟨rfl, hS⟩ := hr
  have HS2 := Aside0.mk hS
  clear hS
  have fc2_0 := HS2.out.cell 0 _ rfl
  have fr2_0 := HS2.out.free 0
  have fc2_1 := HS2.out.cell 1 _ rfl
  have fr2_1 := HS2.out.free 1
  have fc2_2 := HS2.out.cell 2 _ rfl
  have fr2_2 := HS2.out.free 2
  have fc2_3 := HS2.out.cell 4 _ rfl
  have fr2_3 := HS2.out.free 4
  have fc2_4 := HS2.out.cell 5 _ rfl
  have fr2_4 := HS2.out.free 5
  have ce2_0 := HS2.out.nest
  go_wp2_with fail
  refine (HLT.out _).mono ?_
  rintro e w8 ⟨rfl, ⟨nd, rfl⟩⟩
  go_wp2_with fail
  refine (HCA.out _).mono ?_
  intro e w3 hr
  obtain ⟨rfl, hb⟩ := hr
  have HS3 := Aside0.mk (((HS2.out.setT 0 _ { t with kind := 1 } rfl).draw _).stay hb)
  clear hb
  have fc3_0 := HS3.out.cell 0 _ rfl
  have fr3_0 := HS3.out.free 0
  have fc3_1 := HS3.out.cell 4 _ rfl
  have fr3_1 := HS3.out.free 4
  have fc3_2 := HS3.out.cell 5 _ rfl
  have fr3_2 := HS3.out.free 5
  go_wp2
  go_end0
  rw [HL.out]
  exact ⟨rfl, (((HS3.out.setT 0 _ { t with kind := 8 } rfl).setT 4 _ { t with kind := 8, name := chB 115 } rfl).setT 5 _ { t with kind := 8, name := chB 115, neg := false } rfl)⟩
set_option maxHeartbeats 8000000 in
set_option maxRecDepth 100000 in
theorem esc_cls68 (b : ByteArray) (hal : AliasIs b) (S : St W0 m base g h A c p st ne t k w) (hst : t.st = st) (hk : st ≤ k) (y : Int) (hp : peekL p k = .ok y) (k1 : Nat) (hc : charL p k = .ok (68, k1)) :
    Calls Tryz.prog 76 #[.pointer (some ⟨g, 0, none⟩), .pointer (some ⟨h, 0, none⟩)] w (RT W0 g h (fun t k w' => St W0 m base g h A c p st ne t k w') (escapeL (resolveL (rowsB b)) p ne k t)) := by
  have HS0 := Aside0.mk S
  have hgh := S.hn
  have hgh2 := Ne.symm S.hn
  have hkl := (peek_ok hp).1
  obtain ⟨nb, -, hk1, hn1, hn2⟩ := char_ok hc
  have hsk1 : st ≤ k1 := by omega
  have HSK := Aside0.mk hsk1
  have HST := Aside0.mk hst
  have HAL := Aside0.mk hal
  have HL : Aside0 (escapeL (resolveL (rowsB b)) p ne k t = .ok ({ t with kind := 8, name := chB 100, neg := true }, k1)) := ⟨by unfold escapeL; rw [hp, thenF_ok, hc, thenF_ok]; show escL (resolveL (rowsB b)) p ne 68 k1 t = _; unfold escL; rw [if_neg (by decide), if_pos (by decide)]; rfl⟩
  have HP := Aside0.mk hp
  have HC := Aside0.mk hc
  have hlt : letB 68 = true := by decide
  have hcl : clsB 68 = true := by decide
  have HCA : Aside0 (∀ W, Calls Tryz.prog 110 #[.string (chB 68), .string ⟨#[100, 119, 115, 68, 87, 83]⟩] W fun e w' => e = .returned (.bool true) ∧ Below W.heap.size W w') := ⟨fun W => by have h := cany_any 68 (by omega) (by omega) W; rw [hcl] at h; exact h⟩
  have hcv := fun W => conv_ch 68 (by omega) (by omega) W
  have hcv2 := fun W => conv_ch 100 (by omega) (by omega) W
  have hor : bits .or .i64 68 32 = 100 := by kernel_rfl
  have HLT : Aside0 (∀ W, Calls Tryz.prog 108 #[.int .u8 68] W fun e w' => e = .returned (.bool true) ∧ Drawn0 W w') := ⟨fun W => by have h := let_pays W 68 (by omega) (by omega); rw [hlt] at h; exact h⟩
  clear S hst hk hp hc hk1 hn1 hn2 hsk1 hal hlt hcl
  go_enter Tryz.func76, Tryz.ntmps76
  go_wp2_with fail
  refine (sPeek HS0.out).mono ?_
  intro e w1 hr
  rw [HP.out] at hr
  obtain ⟨rfl, hS⟩ := hr
  have HS1 := Aside0.mk hS
  clear hS
  go_wp2_with fail
  refine (sChar HS1.out hkl).mono ?_
  intro e w2 hr
  rw [HC.out] at hr
  obtain ⟨rfl, hS⟩ := hr
  have HS2 := Aside0.mk hS
  clear hS
  have fc2_0 := HS2.out.cell 0 _ rfl
  have fr2_0 := HS2.out.free 0
  have fc2_1 := HS2.out.cell 1 _ rfl
  have fr2_1 := HS2.out.free 1
  have fc2_2 := HS2.out.cell 2 _ rfl
  have fr2_2 := HS2.out.free 2
  have fc2_3 := HS2.out.cell 4 _ rfl
  have fr2_3 := HS2.out.free 4
  have fc2_4 := HS2.out.cell 5 _ rfl
  have fr2_4 := HS2.out.free 5
  have ce2_0 := HS2.out.nest
  go_wp2_with fail
  refine (HLT.out _).mono ?_
  rintro e w8 ⟨rfl, ⟨nd, rfl⟩⟩
  go_wp2_with fail
  refine (HCA.out _).mono ?_
  intro e w3 hr
  obtain ⟨rfl, hb⟩ := hr
  have HS3 := Aside0.mk (((HS2.out.setT 0 _ { t with kind := 1 } rfl).draw _).stay hb)
  clear hb
  have fc3_0 := HS3.out.cell 0 _ rfl
  have fr3_0 := HS3.out.free 0
  have fc3_1 := HS3.out.cell 4 _ rfl
  have fr3_1 := HS3.out.free 4
  have fc3_2 := HS3.out.cell 5 _ rfl
  have fr3_2 := HS3.out.free 5
  go_wp2
  go_end0
  rw [HL.out]
  exact ⟨rfl, (((HS3.out.setT 0 _ { t with kind := 8 } rfl).setT 4 _ { t with kind := 8, name := chB 100 } rfl).setT 5 _ { t with kind := 8, name := chB 100, neg := true } rfl)⟩
set_option maxHeartbeats 8000000 in
set_option maxRecDepth 100000 in
theorem esc_cls87 (b : ByteArray) (hal : AliasIs b) (S : St W0 m base g h A c p st ne t k w) (hst : t.st = st) (hk : st ≤ k) (y : Int) (hp : peekL p k = .ok y) (k1 : Nat) (hc : charL p k = .ok (87, k1)) :
    Calls Tryz.prog 76 #[.pointer (some ⟨g, 0, none⟩), .pointer (some ⟨h, 0, none⟩)] w (RT W0 g h (fun t k w' => St W0 m base g h A c p st ne t k w') (escapeL (resolveL (rowsB b)) p ne k t)) := by
  have HS0 := Aside0.mk S
  have hgh := S.hn
  have hgh2 := Ne.symm S.hn
  have hkl := (peek_ok hp).1
  obtain ⟨nb, -, hk1, hn1, hn2⟩ := char_ok hc
  have hsk1 : st ≤ k1 := by omega
  have HSK := Aside0.mk hsk1
  have HST := Aside0.mk hst
  have HAL := Aside0.mk hal
  have HL : Aside0 (escapeL (resolveL (rowsB b)) p ne k t = .ok ({ t with kind := 8, name := chB 119, neg := true }, k1)) := ⟨by unfold escapeL; rw [hp, thenF_ok, hc, thenF_ok]; show escL (resolveL (rowsB b)) p ne 87 k1 t = _; unfold escL; rw [if_neg (by decide), if_pos (by decide)]; rfl⟩
  have HP := Aside0.mk hp
  have HC := Aside0.mk hc
  have hlt : letB 87 = true := by decide
  have hcl : clsB 87 = true := by decide
  have HCA : Aside0 (∀ W, Calls Tryz.prog 110 #[.string (chB 87), .string ⟨#[100, 119, 115, 68, 87, 83]⟩] W fun e w' => e = .returned (.bool true) ∧ Below W.heap.size W w') := ⟨fun W => by have h := cany_any 87 (by omega) (by omega) W; rw [hcl] at h; exact h⟩
  have hcv := fun W => conv_ch 87 (by omega) (by omega) W
  have hcv2 := fun W => conv_ch 119 (by omega) (by omega) W
  have hor : bits .or .i64 87 32 = 119 := by kernel_rfl
  have HLT : Aside0 (∀ W, Calls Tryz.prog 108 #[.int .u8 87] W fun e w' => e = .returned (.bool true) ∧ Drawn0 W w') := ⟨fun W => by have h := let_pays W 87 (by omega) (by omega); rw [hlt] at h; exact h⟩
  clear S hst hk hp hc hk1 hn1 hn2 hsk1 hal hlt hcl
  go_enter Tryz.func76, Tryz.ntmps76
  go_wp2_with fail
  refine (sPeek HS0.out).mono ?_
  intro e w1 hr
  rw [HP.out] at hr
  obtain ⟨rfl, hS⟩ := hr
  have HS1 := Aside0.mk hS
  clear hS
  go_wp2_with fail
  refine (sChar HS1.out hkl).mono ?_
  intro e w2 hr
  rw [HC.out] at hr
  obtain ⟨rfl, hS⟩ := hr
  have HS2 := Aside0.mk hS
  clear hS
  have fc2_0 := HS2.out.cell 0 _ rfl
  have fr2_0 := HS2.out.free 0
  have fc2_1 := HS2.out.cell 1 _ rfl
  have fr2_1 := HS2.out.free 1
  have fc2_2 := HS2.out.cell 2 _ rfl
  have fr2_2 := HS2.out.free 2
  have fc2_3 := HS2.out.cell 4 _ rfl
  have fr2_3 := HS2.out.free 4
  have fc2_4 := HS2.out.cell 5 _ rfl
  have fr2_4 := HS2.out.free 5
  have ce2_0 := HS2.out.nest
  go_wp2_with fail
  refine (HLT.out _).mono ?_
  rintro e w8 ⟨rfl, ⟨nd, rfl⟩⟩
  go_wp2_with fail
  refine (HCA.out _).mono ?_
  intro e w3 hr
  obtain ⟨rfl, hb⟩ := hr
  have HS3 := Aside0.mk (((HS2.out.setT 0 _ { t with kind := 1 } rfl).draw _).stay hb)
  clear hb
  have fc3_0 := HS3.out.cell 0 _ rfl
  have fr3_0 := HS3.out.free 0
  have fc3_1 := HS3.out.cell 4 _ rfl
  have fr3_1 := HS3.out.free 4
  have fc3_2 := HS3.out.cell 5 _ rfl
  have fr3_2 := HS3.out.free 5
  go_wp2
  go_end0
  rw [HL.out]
  exact ⟨rfl, (((HS3.out.setT 0 _ { t with kind := 8 } rfl).setT 4 _ { t with kind := 8, name := chB 119 } rfl).setT 5 _ { t with kind := 8, name := chB 119, neg := true } rfl)⟩
set_option maxHeartbeats 8000000 in
set_option maxRecDepth 100000 in
theorem esc_cls83 (b : ByteArray) (hal : AliasIs b) (S : St W0 m base g h A c p st ne t k w) (hst : t.st = st) (hk : st ≤ k) (y : Int) (hp : peekL p k = .ok y) (k1 : Nat) (hc : charL p k = .ok (83, k1)) :
    Calls Tryz.prog 76 #[.pointer (some ⟨g, 0, none⟩), .pointer (some ⟨h, 0, none⟩)] w (RT W0 g h (fun t k w' => St W0 m base g h A c p st ne t k w') (escapeL (resolveL (rowsB b)) p ne k t)) := by
  have HS0 := Aside0.mk S
  have hgh := S.hn
  have hgh2 := Ne.symm S.hn
  have hkl := (peek_ok hp).1
  obtain ⟨nb, -, hk1, hn1, hn2⟩ := char_ok hc
  have hsk1 : st ≤ k1 := by omega
  have HSK := Aside0.mk hsk1
  have HST := Aside0.mk hst
  have HAL := Aside0.mk hal
  have HL : Aside0 (escapeL (resolveL (rowsB b)) p ne k t = .ok ({ t with kind := 8, name := chB 115, neg := true }, k1)) := ⟨by unfold escapeL; rw [hp, thenF_ok, hc, thenF_ok]; show escL (resolveL (rowsB b)) p ne 83 k1 t = _; unfold escL; rw [if_neg (by decide), if_pos (by decide)]; rfl⟩
  have HP := Aside0.mk hp
  have HC := Aside0.mk hc
  have hlt : letB 83 = true := by decide
  have hcl : clsB 83 = true := by decide
  have HCA : Aside0 (∀ W, Calls Tryz.prog 110 #[.string (chB 83), .string ⟨#[100, 119, 115, 68, 87, 83]⟩] W fun e w' => e = .returned (.bool true) ∧ Below W.heap.size W w') := ⟨fun W => by have h := cany_any 83 (by omega) (by omega) W; rw [hcl] at h; exact h⟩
  have hcv := fun W => conv_ch 83 (by omega) (by omega) W
  have hcv2 := fun W => conv_ch 115 (by omega) (by omega) W
  have hor : bits .or .i64 83 32 = 115 := by kernel_rfl
  have HLT : Aside0 (∀ W, Calls Tryz.prog 108 #[.int .u8 83] W fun e w' => e = .returned (.bool true) ∧ Drawn0 W w') := ⟨fun W => by have h := let_pays W 83 (by omega) (by omega); rw [hlt] at h; exact h⟩
  clear S hst hk hp hc hk1 hn1 hn2 hsk1 hal hlt hcl
  go_enter Tryz.func76, Tryz.ntmps76
  go_wp2_with fail
  refine (sPeek HS0.out).mono ?_
  intro e w1 hr
  rw [HP.out] at hr
  obtain ⟨rfl, hS⟩ := hr
  have HS1 := Aside0.mk hS
  clear hS
  go_wp2_with fail
  refine (sChar HS1.out hkl).mono ?_
  intro e w2 hr
  rw [HC.out] at hr
  obtain ⟨rfl, hS⟩ := hr
  have HS2 := Aside0.mk hS
  clear hS
  have fc2_0 := HS2.out.cell 0 _ rfl
  have fr2_0 := HS2.out.free 0
  have fc2_1 := HS2.out.cell 1 _ rfl
  have fr2_1 := HS2.out.free 1
  have fc2_2 := HS2.out.cell 2 _ rfl
  have fr2_2 := HS2.out.free 2
  have fc2_3 := HS2.out.cell 4 _ rfl
  have fr2_3 := HS2.out.free 4
  have fc2_4 := HS2.out.cell 5 _ rfl
  have fr2_4 := HS2.out.free 5
  have ce2_0 := HS2.out.nest
  go_wp2_with fail
  refine (HLT.out _).mono ?_
  rintro e w8 ⟨rfl, ⟨nd, rfl⟩⟩
  go_wp2_with fail
  refine (HCA.out _).mono ?_
  intro e w3 hr
  obtain ⟨rfl, hb⟩ := hr
  have HS3 := Aside0.mk (((HS2.out.setT 0 _ { t with kind := 1 } rfl).draw _).stay hb)
  clear hb
  have fc3_0 := HS3.out.cell 0 _ rfl
  have fr3_0 := HS3.out.free 0
  have fc3_1 := HS3.out.cell 4 _ rfl
  have fr3_1 := HS3.out.free 4
  have fc3_2 := HS3.out.cell 5 _ rfl
  have fr3_2 := HS3.out.free 5
  go_wp2
  go_end0
  rw [HL.out]
  exact ⟨rfl, (((HS3.out.setT 0 _ { t with kind := 8 } rfl).setT 4 _ { t with kind := 8, name := chB 115 } rfl).setT 5 _ { t with kind := 8, name := chB 115, neg := true } rfl)⟩
set_option maxHeartbeats 8000000 in
set_option maxRecDepth 100000 in
theorem esc_p (b : ByteArray) (hal : AliasIs b) (S : St W0 m base g h A c p st ne t k w) (hst : t.st = st) (hk : st ≤ k) (y : Int) (hp : peekL p k = .ok y) (k1 : Nat) (hc : charL p k = .ok (112, k1)) :
    Calls Tryz.prog 76 #[.pointer (some ⟨g, 0, none⟩), .pointer (some ⟨h, 0, none⟩)] w (RT W0 g h (fun t k w' => St W0 m base g h A c p st ne t k w') (escapeL (resolveL (rowsB b)) p ne k t)) := by
  have HS0 := Aside0.mk S
  have hgh := S.hn
  have hgh2 := Ne.symm S.hn
  have hkl := (peek_ok hp).1
  obtain ⟨nb, -, hk1, hn1, hn2⟩ := char_ok hc
  have hsk1 : st ≤ k1 := by omega
  have HSK := Aside0.mk hsk1
  have HST := Aside0.mk hst
  have HAL := Aside0.mk hal
  have HL : Aside0 (escapeL (resolveL (rowsB b)) p ne k t = propL (resolveL (rowsB b)) p k1 { t with kind := 1, neg := false }) := ⟨by unfold escapeL; rw [hp, thenF_ok, hc, thenF_ok]; show escL (resolveL (rowsB b)) p ne 112 k1 t = _; unfold escL; rw [if_neg (by decide), if_neg (by decide), if_pos (by decide)]; first | rfl | simp only [show decide ((112 : Int) = 80) = false from rfl]⟩
  have HP := Aside0.mk hp
  have HC := Aside0.mk hc
  have hlt : letB 112 = true := by decide
  have hcl : clsB 112 = false := by decide
  have HCA : Aside0 (∀ W, Calls Tryz.prog 110 #[.string (chB 112), .string ⟨#[100, 119, 115, 68, 87, 83]⟩] W fun e w' => e = .returned (.bool false) ∧ Below W.heap.size W w') := ⟨fun W => by have h := cany_any 112 (by omega) (by omega) W; rw [hcl] at h; exact h⟩
  have hcv := fun W => conv_ch 112 (by omega) (by omega) W
  have HLT : Aside0 (∀ W, Calls Tryz.prog 108 #[.int .u8 112] W fun e w' => e = .returned (.bool true) ∧ Drawn0 W w') := ⟨fun W => by have h := let_pays W 112 (by omega) (by omega); rw [hlt] at h; exact h⟩
  clear S hst hk hp hc hk1 hn1 hn2 hsk1 hal hlt hcl
  go_enter Tryz.func76, Tryz.ntmps76
  go_wp2_with fail
  refine (sPeek HS0.out).mono ?_
  intro e w1 hr
  rw [HP.out] at hr
  obtain ⟨rfl, hS⟩ := hr
  have HS1 := Aside0.mk hS
  clear hS
  go_wp2_with fail
  refine (sChar HS1.out hkl).mono ?_
  intro e w2 hr
  rw [HC.out] at hr
  obtain ⟨rfl, hS⟩ := hr
  have HS2 := Aside0.mk hS
  clear hS
  have fc2_0 := HS2.out.cell 0 _ rfl
  have fr2_0 := HS2.out.free 0
  have fc2_1 := HS2.out.cell 1 _ rfl
  have fr2_1 := HS2.out.free 1
  have fc2_2 := HS2.out.cell 2 _ rfl
  have fr2_2 := HS2.out.free 2
  have fc2_3 := HS2.out.cell 4 _ rfl
  have fr2_3 := HS2.out.free 4
  have fc2_4 := HS2.out.cell 5 _ rfl
  have fr2_4 := HS2.out.free 5
  have ce2_0 := HS2.out.nest
  go_wp2_with fail
  refine (HLT.out _).mono ?_
  rintro e w8 ⟨rfl, ⟨nd, rfl⟩⟩
  go_wp2_with fail
  refine (HCA.out _).mono ?_
  intro e w3 hr
  obtain ⟨rfl, hb⟩ := hr
  have HS3 := Aside0.mk (((HS2.out.setT 0 _ { t with kind := 1 } rfl).draw _).stay hb)
  clear hb
  have fc3_0 := HS3.out.cell 5 _ rfl
  have fr3_0 := HS3.out.free 5
  go_wp2_with fail
  refine (prop_any b HAL.out (HS3.out.setT 5 _ { t with kind := 1, neg := false } rfl) HST.out HSK.out).mono ?_
  intro e w4 hr
  obtain ⟨X, hX⟩ : ∃ X, propL (resolveL (rowsB b)) p k1 { t with kind := 1, neg := false } = X := ⟨_, rfl⟩
  rw [hX] at hr
  rw [hX] at HL
  clear hX
  cases X with
  | error x =>
    obtain ⟨rfl, hB⟩ := hr
    have HBE := Aside0.mk hB
    clear hB
    go_wp2
    rw [HL.out]
    exact ⟨rfl, rfl, HBE.out⟩
  | ok x =>
    obtain ⟨rfl, hS⟩ := hr
    have HS4 := Aside0.mk hS
    clear hS
    go_wp2
    go_end0
    rw [HL.out]
    exact ⟨rfl, HS4.out⟩
set_option maxHeartbeats 8000000 in
set_option maxRecDepth 100000 in
theorem esc_bigp (b : ByteArray) (hal : AliasIs b) (S : St W0 m base g h A c p st ne t k w) (hst : t.st = st) (hk : st ≤ k) (y : Int) (hp : peekL p k = .ok y) (k1 : Nat) (hc : charL p k = .ok (80, k1)) :
    Calls Tryz.prog 76 #[.pointer (some ⟨g, 0, none⟩), .pointer (some ⟨h, 0, none⟩)] w (RT W0 g h (fun t k w' => St W0 m base g h A c p st ne t k w') (escapeL (resolveL (rowsB b)) p ne k t)) := by
  have HS0 := Aside0.mk S
  have hgh := S.hn
  have hgh2 := Ne.symm S.hn
  have hkl := (peek_ok hp).1
  obtain ⟨nb, -, hk1, hn1, hn2⟩ := char_ok hc
  have hsk1 : st ≤ k1 := by omega
  have HSK := Aside0.mk hsk1
  have HST := Aside0.mk hst
  have HAL := Aside0.mk hal
  have HL : Aside0 (escapeL (resolveL (rowsB b)) p ne k t = propL (resolveL (rowsB b)) p k1 { t with kind := 1, neg := true }) := ⟨by unfold escapeL; rw [hp, thenF_ok, hc, thenF_ok]; show escL (resolveL (rowsB b)) p ne 80 k1 t = _; unfold escL; rw [if_neg (by decide), if_neg (by decide), if_pos (by decide)]; first | rfl | simp only [show decide ((80 : Int) = 80) = true from rfl]⟩
  have HP := Aside0.mk hp
  have HC := Aside0.mk hc
  have hlt : letB 80 = true := by decide
  have hcl : clsB 80 = false := by decide
  have HCA : Aside0 (∀ W, Calls Tryz.prog 110 #[.string (chB 80), .string ⟨#[100, 119, 115, 68, 87, 83]⟩] W fun e w' => e = .returned (.bool false) ∧ Below W.heap.size W w') := ⟨fun W => by have h := cany_any 80 (by omega) (by omega) W; rw [hcl] at h; exact h⟩
  have hcv := fun W => conv_ch 80 (by omega) (by omega) W
  have HLT : Aside0 (∀ W, Calls Tryz.prog 108 #[.int .u8 80] W fun e w' => e = .returned (.bool true) ∧ Drawn0 W w') := ⟨fun W => by have h := let_pays W 80 (by omega) (by omega); rw [hlt] at h; exact h⟩
  clear S hst hk hp hc hk1 hn1 hn2 hsk1 hal hlt hcl
  go_enter Tryz.func76, Tryz.ntmps76
  go_wp2_with fail
  refine (sPeek HS0.out).mono ?_
  intro e w1 hr
  rw [HP.out] at hr
  obtain ⟨rfl, hS⟩ := hr
  have HS1 := Aside0.mk hS
  clear hS
  go_wp2_with fail
  refine (sChar HS1.out hkl).mono ?_
  intro e w2 hr
  rw [HC.out] at hr
  obtain ⟨rfl, hS⟩ := hr
  have HS2 := Aside0.mk hS
  clear hS
  have fc2_0 := HS2.out.cell 0 _ rfl
  have fr2_0 := HS2.out.free 0
  have fc2_1 := HS2.out.cell 1 _ rfl
  have fr2_1 := HS2.out.free 1
  have fc2_2 := HS2.out.cell 2 _ rfl
  have fr2_2 := HS2.out.free 2
  have fc2_3 := HS2.out.cell 4 _ rfl
  have fr2_3 := HS2.out.free 4
  have fc2_4 := HS2.out.cell 5 _ rfl
  have fr2_4 := HS2.out.free 5
  have ce2_0 := HS2.out.nest
  go_wp2_with fail
  refine (HLT.out _).mono ?_
  rintro e w8 ⟨rfl, ⟨nd, rfl⟩⟩
  go_wp2_with fail
  refine (HCA.out _).mono ?_
  intro e w3 hr
  obtain ⟨rfl, hb⟩ := hr
  have HS3 := Aside0.mk (((HS2.out.setT 0 _ { t with kind := 1 } rfl).draw _).stay hb)
  clear hb
  have fc3_0 := HS3.out.cell 5 _ rfl
  have fr3_0 := HS3.out.free 5
  go_wp2_with fail
  refine (prop_any b HAL.out (HS3.out.setT 5 _ { t with kind := 1, neg := true } rfl) HST.out HSK.out).mono ?_
  intro e w4 hr
  obtain ⟨X, hX⟩ : ∃ X, propL (resolveL (rowsB b)) p k1 { t with kind := 1, neg := true } = X := ⟨_, rfl⟩
  rw [hX] at hr
  rw [hX] at HL
  clear hX
  cases X with
  | error x =>
    obtain ⟨rfl, hB⟩ := hr
    have HBE := Aside0.mk hB
    clear hB
    go_wp2
    rw [HL.out]
    exact ⟨rfl, rfl, HBE.out⟩
  | ok x =>
    obtain ⟨rfl, hS⟩ := hr
    have HS4 := Aside0.mk hS
    clear hS
    go_wp2
    go_end0
    rw [HL.out]
    exact ⟨rfl, HS4.out⟩
set_option maxHeartbeats 8000000 in
set_option maxRecDepth 100000 in
theorem esc_x (b : ByteArray) (hal : AliasIs b) (S : St W0 m base g h A c p st ne t k w) (hst : t.st = st) (hk : st ≤ k) (y : Int) (hp : peekL p k = .ok y) (k1 : Nat) (hc : charL p k = .ok (120, k1)) :
    Calls Tryz.prog 76 #[.pointer (some ⟨g, 0, none⟩), .pointer (some ⟨h, 0, none⟩)] w (RT W0 g h (fun t k w' => St W0 m base g h A c p st ne t k w') (escapeL (resolveL (rowsB b)) p ne k t)) := by
  have HS0 := Aside0.mk S
  have hgh := S.hn
  have hgh2 := Ne.symm S.hn
  have hkl := (peek_ok hp).1
  obtain ⟨nb, -, hk1, hn1, hn2⟩ := char_ok hc
  have hsk1 : st ≤ k1 := by omega
  have HSK := Aside0.mk hsk1
  have HST := Aside0.mk hst
  have HAL := Aside0.mk hal
  have HL : Aside0 (escapeL (resolveL (rowsB b)) p ne k t = pointL p k1 { t with kind := 1 }) := ⟨by unfold escapeL; rw [hp, thenF_ok, hc, thenF_ok]; show escL (resolveL (rowsB b)) p ne 120 k1 t = _; unfold escL; rw [if_neg (by decide), if_neg (by decide), if_neg (by decide), if_pos rfl]⟩
  have HP := Aside0.mk hp
  have HC := Aside0.mk hc
  have hlt : letB 120 = true := by decide
  have hcl : clsB 120 = false := by decide
  have HCA : Aside0 (∀ W, Calls Tryz.prog 110 #[.string (chB 120), .string ⟨#[100, 119, 115, 68, 87, 83]⟩] W fun e w' => e = .returned (.bool false) ∧ Below W.heap.size W w') := ⟨fun W => by have h := cany_any 120 (by omega) (by omega) W; rw [hcl] at h; exact h⟩
  have hcv := fun W => conv_ch 120 (by omega) (by omega) W
  have HLT : Aside0 (∀ W, Calls Tryz.prog 108 #[.int .u8 120] W fun e w' => e = .returned (.bool true) ∧ Drawn0 W w') := ⟨fun W => by have h := let_pays W 120 (by omega) (by omega); rw [hlt] at h; exact h⟩
  clear S hst hk hp hc hk1 hn1 hn2 hsk1 hal hlt hcl
  go_enter Tryz.func76, Tryz.ntmps76
  go_wp2_with fail
  refine (sPeek HS0.out).mono ?_
  intro e w1 hr
  rw [HP.out] at hr
  obtain ⟨rfl, hS⟩ := hr
  have HS1 := Aside0.mk hS
  clear hS
  go_wp2_with fail
  refine (sChar HS1.out hkl).mono ?_
  intro e w2 hr
  rw [HC.out] at hr
  obtain ⟨rfl, hS⟩ := hr
  have HS2 := Aside0.mk hS
  clear hS
  have fc2_0 := HS2.out.cell 0 _ rfl
  have fr2_0 := HS2.out.free 0
  have fc2_1 := HS2.out.cell 1 _ rfl
  have fr2_1 := HS2.out.free 1
  have fc2_2 := HS2.out.cell 2 _ rfl
  have fr2_2 := HS2.out.free 2
  have fc2_3 := HS2.out.cell 4 _ rfl
  have fr2_3 := HS2.out.free 4
  have fc2_4 := HS2.out.cell 5 _ rfl
  have fr2_4 := HS2.out.free 5
  have ce2_0 := HS2.out.nest
  go_wp2_with fail
  refine (HLT.out _).mono ?_
  rintro e w8 ⟨rfl, ⟨nd, rfl⟩⟩
  go_wp2_with fail
  refine (HCA.out _).mono ?_
  intro e w3 hr
  obtain ⟨rfl, hb⟩ := hr
  have HS3 := Aside0.mk (((HS2.out.setT 0 _ { t with kind := 1 } rfl).draw _).stay hb)
  clear hb
  go_wp2_with fail
  refine (point_any HS3.out HST.out HSK.out).mono ?_
  intro e w4 hr
  obtain ⟨X, hX⟩ : ∃ X, pointL p k1 { t with kind := 1 } = X := ⟨_, rfl⟩
  rw [hX] at hr
  rw [hX] at HL
  clear hX
  cases X with
  | error x =>
    obtain ⟨rfl, hB⟩ := hr
    have HBE := Aside0.mk hB
    clear hB
    go_wp2
    rw [HL.out]
    exact ⟨rfl, rfl, HBE.out⟩
  | ok x =>
    obtain ⟨rfl, hS⟩ := hr
    have HS4 := Aside0.mk hS
    clear hS
    go_wp2
    go_end0
    rw [HL.out]
    exact ⟨rfl, HS4.out⟩
set_option maxHeartbeats 8000000 in
set_option maxRecDepth 100000 in
theorem esc_c110 (b : ByteArray) (hal : AliasIs b) (S : St W0 m base g h A c p st ne t k w) (hst : t.st = st) (hk : st ≤ k) (y : Int) (hp : peekL p k = .ok y) (k1 : Nat) (hc : charL p k = .ok (110, k1)) :
    Calls Tryz.prog 76 #[.pointer (some ⟨g, 0, none⟩), .pointer (some ⟨h, 0, none⟩)] w (RT W0 g h (fun t k w' => St W0 m base g h A c p st ne t k w') (escapeL (resolveL (rowsB b)) p ne k t)) := by
  have HS0 := Aside0.mk S
  have hgh := S.hn
  have hgh2 := Ne.symm S.hn
  have hkl := (peek_ok hp).1
  obtain ⟨nb, -, hk1, hn1, hn2⟩ := char_ok hc
  have hsk1 : st ≤ k1 := by omega
  have HSK := Aside0.mk hsk1
  have HST := Aside0.mk hst
  have HAL := Aside0.mk hal
  have HL : Aside0 (escapeL (resolveL (rowsB b)) p ne k t = .ok ({ t with kind := 1, a := 10 }, k1)) := ⟨by unfold escapeL; rw [hp, thenF_ok, hc, thenF_ok]; show escL (resolveL (rowsB b)) p ne 110 k1 t = _; unfold escL; rw [if_neg (by decide), if_neg (by decide), if_neg (by decide), if_neg (by decide), if_pos rfl]⟩
  have HP := Aside0.mk hp
  have HC := Aside0.mk hc
  have hlt : letB 110 = true := by decide
  have hcl : clsB 110 = false := by decide
  have HCA : Aside0 (∀ W, Calls Tryz.prog 110 #[.string (chB 110), .string ⟨#[100, 119, 115, 68, 87, 83]⟩] W fun e w' => e = .returned (.bool false) ∧ Below W.heap.size W w') := ⟨fun W => by have h := cany_any 110 (by omega) (by omega) W; rw [hcl] at h; exact h⟩
  have hcv := fun W => conv_ch 110 (by omega) (by omega) W
  have HLT : Aside0 (∀ W, Calls Tryz.prog 108 #[.int .u8 110] W fun e w' => e = .returned (.bool true) ∧ Drawn0 W w') := ⟨fun W => by have h := let_pays W 110 (by omega) (by omega); rw [hlt] at h; exact h⟩
  clear S hst hk hp hc hk1 hn1 hn2 hsk1 hal hlt hcl
  go_enter Tryz.func76, Tryz.ntmps76
  go_wp2_with fail
  refine (sPeek HS0.out).mono ?_
  intro e w1 hr
  rw [HP.out] at hr
  obtain ⟨rfl, hS⟩ := hr
  have HS1 := Aside0.mk hS
  clear hS
  go_wp2_with fail
  refine (sChar HS1.out hkl).mono ?_
  intro e w2 hr
  rw [HC.out] at hr
  obtain ⟨rfl, hS⟩ := hr
  have HS2 := Aside0.mk hS
  clear hS
  have fc2_0 := HS2.out.cell 0 _ rfl
  have fr2_0 := HS2.out.free 0
  have fc2_1 := HS2.out.cell 1 _ rfl
  have fr2_1 := HS2.out.free 1
  have fc2_2 := HS2.out.cell 2 _ rfl
  have fr2_2 := HS2.out.free 2
  have fc2_3 := HS2.out.cell 4 _ rfl
  have fr2_3 := HS2.out.free 4
  have fc2_4 := HS2.out.cell 5 _ rfl
  have fr2_4 := HS2.out.free 5
  have ce2_0 := HS2.out.nest
  go_wp2_with fail
  refine (HLT.out _).mono ?_
  rintro e w8 ⟨rfl, ⟨nd, rfl⟩⟩
  go_wp2_with fail
  refine (HCA.out _).mono ?_
  intro e w3 hr
  obtain ⟨rfl, hb⟩ := hr
  have HS3 := Aside0.mk (((HS2.out.setT 0 _ { t with kind := 1 } rfl).draw _).stay hb)
  clear hb
  have fc3_0 := HS3.out.cell 2 _ rfl
  have fr3_0 := HS3.out.free 2
  go_wp2
  go_end0
  rw [HL.out]
  exact ⟨rfl, (HS3.out.setT 2 _ { t with kind := 1, a := 10 } rfl)⟩
set_option maxHeartbeats 8000000 in
set_option maxRecDepth 100000 in
theorem esc_c116 (b : ByteArray) (hal : AliasIs b) (S : St W0 m base g h A c p st ne t k w) (hst : t.st = st) (hk : st ≤ k) (y : Int) (hp : peekL p k = .ok y) (k1 : Nat) (hc : charL p k = .ok (116, k1)) :
    Calls Tryz.prog 76 #[.pointer (some ⟨g, 0, none⟩), .pointer (some ⟨h, 0, none⟩)] w (RT W0 g h (fun t k w' => St W0 m base g h A c p st ne t k w') (escapeL (resolveL (rowsB b)) p ne k t)) := by
  have HS0 := Aside0.mk S
  have hgh := S.hn
  have hgh2 := Ne.symm S.hn
  have hkl := (peek_ok hp).1
  obtain ⟨nb, -, hk1, hn1, hn2⟩ := char_ok hc
  have hsk1 : st ≤ k1 := by omega
  have HSK := Aside0.mk hsk1
  have HST := Aside0.mk hst
  have HAL := Aside0.mk hal
  have HL : Aside0 (escapeL (resolveL (rowsB b)) p ne k t = .ok ({ t with kind := 1, a := 9 }, k1)) := ⟨by unfold escapeL; rw [hp, thenF_ok, hc, thenF_ok]; show escL (resolveL (rowsB b)) p ne 116 k1 t = _; unfold escL; rw [if_neg (by decide), if_neg (by decide), if_neg (by decide), if_neg (by decide), if_neg (by decide), if_pos rfl]⟩
  have HP := Aside0.mk hp
  have HC := Aside0.mk hc
  have hlt : letB 116 = true := by decide
  have hcl : clsB 116 = false := by decide
  have HCA : Aside0 (∀ W, Calls Tryz.prog 110 #[.string (chB 116), .string ⟨#[100, 119, 115, 68, 87, 83]⟩] W fun e w' => e = .returned (.bool false) ∧ Below W.heap.size W w') := ⟨fun W => by have h := cany_any 116 (by omega) (by omega) W; rw [hcl] at h; exact h⟩
  have hcv := fun W => conv_ch 116 (by omega) (by omega) W
  have HLT : Aside0 (∀ W, Calls Tryz.prog 108 #[.int .u8 116] W fun e w' => e = .returned (.bool true) ∧ Drawn0 W w') := ⟨fun W => by have h := let_pays W 116 (by omega) (by omega); rw [hlt] at h; exact h⟩
  clear S hst hk hp hc hk1 hn1 hn2 hsk1 hal hlt hcl
  go_enter Tryz.func76, Tryz.ntmps76
  go_wp2_with fail
  refine (sPeek HS0.out).mono ?_
  intro e w1 hr
  rw [HP.out] at hr
  obtain ⟨rfl, hS⟩ := hr
  have HS1 := Aside0.mk hS
  clear hS
  go_wp2_with fail
  refine (sChar HS1.out hkl).mono ?_
  intro e w2 hr
  rw [HC.out] at hr
  obtain ⟨rfl, hS⟩ := hr
  have HS2 := Aside0.mk hS
  clear hS
  have fc2_0 := HS2.out.cell 0 _ rfl
  have fr2_0 := HS2.out.free 0
  have fc2_1 := HS2.out.cell 1 _ rfl
  have fr2_1 := HS2.out.free 1
  have fc2_2 := HS2.out.cell 2 _ rfl
  have fr2_2 := HS2.out.free 2
  have fc2_3 := HS2.out.cell 4 _ rfl
  have fr2_3 := HS2.out.free 4
  have fc2_4 := HS2.out.cell 5 _ rfl
  have fr2_4 := HS2.out.free 5
  have ce2_0 := HS2.out.nest
  go_wp2_with fail
  refine (HLT.out _).mono ?_
  rintro e w8 ⟨rfl, ⟨nd, rfl⟩⟩
  go_wp2_with fail
  refine (HCA.out _).mono ?_
  intro e w3 hr
  obtain ⟨rfl, hb⟩ := hr
  have HS3 := Aside0.mk (((HS2.out.setT 0 _ { t with kind := 1 } rfl).draw _).stay hb)
  clear hb
  have fc3_0 := HS3.out.cell 2 _ rfl
  have fr3_0 := HS3.out.free 2
  go_wp2
  go_end0
  rw [HL.out]
  exact ⟨rfl, (HS3.out.setT 2 _ { t with kind := 1, a := 9 } rfl)⟩
set_option maxHeartbeats 8000000 in
set_option maxRecDepth 100000 in
theorem esc_c114 (b : ByteArray) (hal : AliasIs b) (S : St W0 m base g h A c p st ne t k w) (hst : t.st = st) (hk : st ≤ k) (y : Int) (hp : peekL p k = .ok y) (k1 : Nat) (hc : charL p k = .ok (114, k1)) :
    Calls Tryz.prog 76 #[.pointer (some ⟨g, 0, none⟩), .pointer (some ⟨h, 0, none⟩)] w (RT W0 g h (fun t k w' => St W0 m base g h A c p st ne t k w') (escapeL (resolveL (rowsB b)) p ne k t)) := by
  have HS0 := Aside0.mk S
  have hgh := S.hn
  have hgh2 := Ne.symm S.hn
  have hkl := (peek_ok hp).1
  obtain ⟨nb, -, hk1, hn1, hn2⟩ := char_ok hc
  have hsk1 : st ≤ k1 := by omega
  have HSK := Aside0.mk hsk1
  have HST := Aside0.mk hst
  have HAL := Aside0.mk hal
  have HL : Aside0 (escapeL (resolveL (rowsB b)) p ne k t = .ok ({ t with kind := 1, a := 13 }, k1)) := ⟨by unfold escapeL; rw [hp, thenF_ok, hc, thenF_ok]; show escL (resolveL (rowsB b)) p ne 114 k1 t = _; unfold escL; rw [if_neg (by decide), if_neg (by decide), if_neg (by decide), if_neg (by decide), if_neg (by decide), if_neg (by decide), if_pos rfl]⟩
  have HP := Aside0.mk hp
  have HC := Aside0.mk hc
  have hlt : letB 114 = true := by decide
  have hcl : clsB 114 = false := by decide
  have HCA : Aside0 (∀ W, Calls Tryz.prog 110 #[.string (chB 114), .string ⟨#[100, 119, 115, 68, 87, 83]⟩] W fun e w' => e = .returned (.bool false) ∧ Below W.heap.size W w') := ⟨fun W => by have h := cany_any 114 (by omega) (by omega) W; rw [hcl] at h; exact h⟩
  have hcv := fun W => conv_ch 114 (by omega) (by omega) W
  have HLT : Aside0 (∀ W, Calls Tryz.prog 108 #[.int .u8 114] W fun e w' => e = .returned (.bool true) ∧ Drawn0 W w') := ⟨fun W => by have h := let_pays W 114 (by omega) (by omega); rw [hlt] at h; exact h⟩
  clear S hst hk hp hc hk1 hn1 hn2 hsk1 hal hlt hcl
  go_enter Tryz.func76, Tryz.ntmps76
  go_wp2_with fail
  refine (sPeek HS0.out).mono ?_
  intro e w1 hr
  rw [HP.out] at hr
  obtain ⟨rfl, hS⟩ := hr
  have HS1 := Aside0.mk hS
  clear hS
  go_wp2_with fail
  refine (sChar HS1.out hkl).mono ?_
  intro e w2 hr
  rw [HC.out] at hr
  obtain ⟨rfl, hS⟩ := hr
  have HS2 := Aside0.mk hS
  clear hS
  have fc2_0 := HS2.out.cell 0 _ rfl
  have fr2_0 := HS2.out.free 0
  have fc2_1 := HS2.out.cell 1 _ rfl
  have fr2_1 := HS2.out.free 1
  have fc2_2 := HS2.out.cell 2 _ rfl
  have fr2_2 := HS2.out.free 2
  have fc2_3 := HS2.out.cell 4 _ rfl
  have fr2_3 := HS2.out.free 4
  have fc2_4 := HS2.out.cell 5 _ rfl
  have fr2_4 := HS2.out.free 5
  have ce2_0 := HS2.out.nest
  go_wp2_with fail
  refine (HLT.out _).mono ?_
  rintro e w8 ⟨rfl, ⟨nd, rfl⟩⟩
  go_wp2_with fail
  refine (HCA.out _).mono ?_
  intro e w3 hr
  obtain ⟨rfl, hb⟩ := hr
  have HS3 := Aside0.mk (((HS2.out.setT 0 _ { t with kind := 1 } rfl).draw _).stay hb)
  clear hb
  have fc3_0 := HS3.out.cell 2 _ rfl
  have fr3_0 := HS3.out.free 2
  go_wp2
  go_end0
  rw [HL.out]
  exact ⟨rfl, (HS3.out.setT 2 _ { t with kind := 1, a := 13 } rfl)⟩
set_option maxHeartbeats 8000000 in
set_option maxRecDepth 100000 in
theorem esc_in_letter (b : ByteArray) (hal : AliasIs b) (S : St W0 m base g h A c p st ne t k w) (hst : t.st = st) (hk : st ≤ k) (ch : Int) (y : Int) (hp : peekL p k = .ok y) (k1 : Nat) (hc : charL p k = .ok (ch, k1)) (h0 : 0 ≤ ch) (h1 : ch < 128) (hlt : letB ch = true) (hcl : clsB ch = false) (n112 : ch ≠ 112) (n80 : ch ≠ 80) (n120 : ch ≠ 120) (n110 : ch ≠ 110) (n116 : ch ≠ 116) (n114 : ch ≠ 114) (hne : ne ≠ 0) :
    Calls Tryz.prog 76 #[.pointer (some ⟨g, 0, none⟩), .pointer (some ⟨h, 0, none⟩)] w (RT W0 g h (fun t k w' => St W0 m base g h A c p st ne t k w') (escapeL (resolveL (rowsB b)) p ne k t)) := by
  have HS0 := Aside0.mk S
  have hgh := S.hn
  have hgh2 := Ne.symm S.hn
  have hkl := (peek_ok hp).1
  obtain ⟨nb, -, hk1, hn1, hn2⟩ := char_ok hc
  have hsk1 : st ≤ k1 := by omega
  have HSK := Aside0.mk hsk1
  have HST := Aside0.mk hst
  have HAL := Aside0.mk hal
  have HL : Aside0 (escapeL (resolveL (rowsB b)) p ne k t = .error (132, st)) := ⟨by unfold escapeL; rw [hp, thenF_ok, hc, thenF_ok]; show escL (resolveL (rowsB b)) p ne ch k1 t = _; unfold escL; rw [if_neg (fun q => q.elim (by omega) (fun q => absurd q.1 (by rw [hlt]; decide))), if_neg (fun q => absurd hcl (by rw [clsB_of q]; decide)), if_neg (fun q => q.elim n112 n80), if_neg n120, if_neg n110, if_neg n116, if_neg n114, if_pos hne, hst]⟩
  have HP := Aside0.mk hp
  have HC := Aside0.mk hc
  have hd : decide (128 ≤ ch) = false := decide_eq_false (by omega)
  have e112 : (ch == 112) = false := by rw [beq_eq_false_iff_ne]; exact n112
  have f112 : (112 == ch) = false := by rw [beq_eq_false_iff_ne]; exact fun e => n112 e.symm
  have e80 : (ch == 80) = false := by rw [beq_eq_false_iff_ne]; exact n80
  have f80 : (80 == ch) = false := by rw [beq_eq_false_iff_ne]; exact fun e => n80 e.symm
  have e120 : (ch == 120) = false := by rw [beq_eq_false_iff_ne]; exact n120
  have f120 : (120 == ch) = false := by rw [beq_eq_false_iff_ne]; exact fun e => n120 e.symm
  have e110 : (ch == 110) = false := by rw [beq_eq_false_iff_ne]; exact n110
  have f110 : (110 == ch) = false := by rw [beq_eq_false_iff_ne]; exact fun e => n110 e.symm
  have e116 : (ch == 116) = false := by rw [beq_eq_false_iff_ne]; exact n116
  have f116 : (116 == ch) = false := by rw [beq_eq_false_iff_ne]; exact fun e => n116 e.symm
  have e114 : (ch == 114) = false := by rw [beq_eq_false_iff_ne]; exact n114
  have f114 : (114 == ch) = false := by rw [beq_eq_false_iff_ne]; exact fun e => n114 e.symm
  have hz : ((ne : Int) == 0) = false := by rw [beq_eq_false_iff_ne]; omega
  have HCA : Aside0 (∀ W, Calls Tryz.prog 110 #[.string (chB ch), .string ⟨#[100, 119, 115, 68, 87, 83]⟩] W fun e w' => e = .returned (.bool false) ∧ Below W.heap.size W w') := ⟨fun W => by have h := cany_any ch (by omega) (by omega) W; rw [hcl] at h; exact h⟩
  have hcv := fun W => conv_ch ch (by omega) (by omega) W
  have HLT : Aside0 (∀ W, Calls Tryz.prog 108 #[.int .u8 ch] W fun e w' => e = .returned (.bool true) ∧ Drawn0 W w') := ⟨fun W => by have h := let_pays W ch (by omega) (by omega); rw [hlt] at h; exact h⟩
  clear S hst hk hp hc hk1 hn1 hn2 hsk1 hal hlt hcl hne n112 n80 n120 n110 n116 n114
  go_enter Tryz.func76, Tryz.ntmps76
  go_wp2_with fail
  refine (sPeek HS0.out).mono ?_
  intro e w1 hr
  rw [HP.out] at hr
  obtain ⟨rfl, hS⟩ := hr
  have HS1 := Aside0.mk hS
  clear hS
  go_wp2_with fail
  refine (sChar HS1.out hkl).mono ?_
  intro e w2 hr
  rw [HC.out] at hr
  obtain ⟨rfl, hS⟩ := hr
  have HS2 := Aside0.mk hS
  clear hS
  have fc2_0 := HS2.out.cell 0 _ rfl
  have fr2_0 := HS2.out.free 0
  have fc2_1 := HS2.out.cell 1 _ rfl
  have fr2_1 := HS2.out.free 1
  have fc2_2 := HS2.out.cell 2 _ rfl
  have fr2_2 := HS2.out.free 2
  have fc2_3 := HS2.out.cell 4 _ rfl
  have fr2_3 := HS2.out.free 4
  have fc2_4 := HS2.out.cell 5 _ rfl
  have fr2_4 := HS2.out.free 5
  have ce2_0 := HS2.out.nest
  go_wp2_with fail
  refine (HLT.out _).mono ?_
  rintro e w8 ⟨rfl, ⟨nd, rfl⟩⟩
  go_wp2_with fail
  refine (HCA.out _).mono ?_
  intro e w3 hr
  obtain ⟨rfl, hb⟩ := hr
  have HS3 := Aside0.mk (((HS2.out.setT 0 _ { t with kind := 1 } rfl).draw _).stay hb)
  clear hb
  go_wp2_with fail
  refine (sFail HS3.out 132).mono ?_
  intro e w4 hr
  obtain ⟨rfl, hB⟩ := hr
  have HBE := Aside0.mk hB
  clear hB
  go_wp2
  rw [HL.out]
  exact ⟨rfl, rfl, HBE.out⟩
set_option maxHeartbeats 8000000 in
set_option maxRecDepth 100000 in
theorem esc_in_digit (b : ByteArray) (hal : AliasIs b) (S : St W0 m base g h A c p st ne t k w) (hst : t.st = st) (hk : st ≤ k) (ch : Int) (y : Int) (hp : peekL p k = .ok y) (k1 : Nat) (hc : charL p k = .ok (ch, k1)) (h0 : 0 ≤ ch) (h1 : ch < 128) (hlt : letB ch = false) (hdg : digB ch = true) (hcl : clsB ch = false) (n112 : ch ≠ 112) (n80 : ch ≠ 80) (n120 : ch ≠ 120) (n110 : ch ≠ 110) (n116 : ch ≠ 116) (n114 : ch ≠ 114) (hne : ne ≠ 0) :
    Calls Tryz.prog 76 #[.pointer (some ⟨g, 0, none⟩), .pointer (some ⟨h, 0, none⟩)] w (RT W0 g h (fun t k w' => St W0 m base g h A c p st ne t k w') (escapeL (resolveL (rowsB b)) p ne k t)) := by
  have HS0 := Aside0.mk S
  have hgh := S.hn
  have hgh2 := Ne.symm S.hn
  have hkl := (peek_ok hp).1
  obtain ⟨nb, -, hk1, hn1, hn2⟩ := char_ok hc
  have hsk1 : st ≤ k1 := by omega
  have HSK := Aside0.mk hsk1
  have HST := Aside0.mk hst
  have HAL := Aside0.mk hal
  have HL : Aside0 (escapeL (resolveL (rowsB b)) p ne k t = .error (132, st)) := ⟨by unfold escapeL; rw [hp, thenF_ok, hc, thenF_ok]; show escL (resolveL (rowsB b)) p ne ch k1 t = _; unfold escL; rw [if_neg (fun q => q.elim (by omega) (fun q => absurd q.2 (by rw [hdg]; decide))), if_neg (fun q => absurd hcl (by rw [clsB_of q]; decide)), if_neg (fun q => q.elim n112 n80), if_neg n120, if_neg n110, if_neg n116, if_neg n114, if_pos hne, hst]⟩
  have HP := Aside0.mk hp
  have HC := Aside0.mk hc
  have hd : decide (128 ≤ ch) = false := decide_eq_false (by omega)
  have e112 : (ch == 112) = false := by rw [beq_eq_false_iff_ne]; exact n112
  have f112 : (112 == ch) = false := by rw [beq_eq_false_iff_ne]; exact fun e => n112 e.symm
  have e80 : (ch == 80) = false := by rw [beq_eq_false_iff_ne]; exact n80
  have f80 : (80 == ch) = false := by rw [beq_eq_false_iff_ne]; exact fun e => n80 e.symm
  have e120 : (ch == 120) = false := by rw [beq_eq_false_iff_ne]; exact n120
  have f120 : (120 == ch) = false := by rw [beq_eq_false_iff_ne]; exact fun e => n120 e.symm
  have e110 : (ch == 110) = false := by rw [beq_eq_false_iff_ne]; exact n110
  have f110 : (110 == ch) = false := by rw [beq_eq_false_iff_ne]; exact fun e => n110 e.symm
  have e116 : (ch == 116) = false := by rw [beq_eq_false_iff_ne]; exact n116
  have f116 : (116 == ch) = false := by rw [beq_eq_false_iff_ne]; exact fun e => n116 e.symm
  have e114 : (ch == 114) = false := by rw [beq_eq_false_iff_ne]; exact n114
  have f114 : (114 == ch) = false := by rw [beq_eq_false_iff_ne]; exact fun e => n114 e.symm
  have hz : ((ne : Int) == 0) = false := by rw [beq_eq_false_iff_ne]; omega
  have HCA : Aside0 (∀ W, Calls Tryz.prog 110 #[.string (chB ch), .string ⟨#[100, 119, 115, 68, 87, 83]⟩] W fun e w' => e = .returned (.bool false) ∧ Below W.heap.size W w') := ⟨fun W => by have h := cany_any ch (by omega) (by omega) W; rw [hcl] at h; exact h⟩
  have hcv := fun W => conv_ch ch (by omega) (by omega) W
  have HLT : Aside0 (∀ W, Calls Tryz.prog 108 #[.int .u8 ch] W fun e w' => e = .returned (.bool false) ∧ Drawn0 W w') := ⟨fun W => by have h := let_pays W ch (by omega) (by omega); rw [hlt] at h; exact h⟩
  have HDG : Aside0 (∀ W, Calls Tryz.prog 109 #[.int .u8 ch] W fun e w' => e = .returned (.bool true) ∧ Drawn0 W w') := ⟨fun W => by have h := dig_pays W ch (by omega) (by omega); rw [hdg] at h; exact h⟩
  clear S hst hk hp hc hk1 hn1 hn2 hsk1 hal hlt hdg hcl hne n112 n80 n120 n110 n116 n114
  go_enter Tryz.func76, Tryz.ntmps76
  go_wp2_with fail
  refine (sPeek HS0.out).mono ?_
  intro e w1 hr
  rw [HP.out] at hr
  obtain ⟨rfl, hS⟩ := hr
  have HS1 := Aside0.mk hS
  clear hS
  go_wp2_with fail
  refine (sChar HS1.out hkl).mono ?_
  intro e w2 hr
  rw [HC.out] at hr
  obtain ⟨rfl, hS⟩ := hr
  have HS2 := Aside0.mk hS
  clear hS
  have fc2_0 := HS2.out.cell 0 _ rfl
  have fr2_0 := HS2.out.free 0
  have fc2_1 := HS2.out.cell 1 _ rfl
  have fr2_1 := HS2.out.free 1
  have fc2_2 := HS2.out.cell 2 _ rfl
  have fr2_2 := HS2.out.free 2
  have fc2_3 := HS2.out.cell 4 _ rfl
  have fr2_3 := HS2.out.free 4
  have fc2_4 := HS2.out.cell 5 _ rfl
  have fr2_4 := HS2.out.free 5
  have ce2_0 := HS2.out.nest
  go_wp2_with fail
  refine (HLT.out _).mono ?_
  rintro e w8 ⟨rfl, ⟨nd, rfl⟩⟩
  go_wp2_with fail
  refine (HDG.out _).mono ?_
  rintro e w9 ⟨rfl, ⟨nd2, rfl⟩⟩
  go_wp2_with fail
  refine (HCA.out _).mono ?_
  intro e w3 hr
  obtain ⟨rfl, hb⟩ := hr
  have HS3 := Aside0.mk (((HS2.out.setT 0 _ { t with kind := 1 } rfl).draw _).stay hb)
  clear hb
  go_wp2_with fail
  refine (sFail HS3.out 132).mono ?_
  intro e w4 hr
  obtain ⟨rfl, hB⟩ := hr
  have HBE := Aside0.mk hB
  clear hB
  go_wp2
  rw [HL.out]
  exact ⟨rfl, rfl, HBE.out⟩
set_option maxHeartbeats 8000000 in
set_option maxRecDepth 100000 in
theorem esc_out_A (b : ByteArray) (hal : AliasIs b) (S : St W0 m base g h A c p st ne t k w) (hst : t.st = st) (hk : st ≤ k) (y : Int) (hp : peekL p k = .ok y) (k1 : Nat) (hc : charL p k = .ok (65, k1)) (h00 : ne = 0) :
    Calls Tryz.prog 76 #[.pointer (some ⟨g, 0, none⟩), .pointer (some ⟨h, 0, none⟩)] w (RT W0 g h (fun t k w' => St W0 m base g h A c p st ne t k w') (escapeL (resolveL (rowsB b)) p ne k t)) := by
  have HS0 := Aside0.mk S
  have hgh := S.hn
  have hgh2 := Ne.symm S.hn
  have hkl := (peek_ok hp).1
  obtain ⟨nb, -, hk1, hn1, hn2⟩ := char_ok hc
  have hsk1 : st ≤ k1 := by omega
  have HSK := Aside0.mk hsk1
  have HST := Aside0.mk hst
  have HAL := Aside0.mk hal
  have HL : Aside0 (escapeL (resolveL (rowsB b)) p ne k t = .ok ({ t with kind := 7, mode := 3 }, k1)) := ⟨by unfold escapeL; rw [hp, thenF_ok, hc, thenF_ok]; show escL (resolveL (rowsB b)) p ne 65 k1 t = _; unfold escL; rw [if_neg (by decide), if_neg (by decide), if_neg (by decide), if_neg (by decide), if_neg (by decide), if_neg (by decide), if_neg (by decide), if_neg (fun q => q h00), if_pos rfl]⟩
  have HP := Aside0.mk hp
  have HC := Aside0.mk hc
  have hlt : letB 65 = true := by decide
  have hcl : clsB 65 = false := by decide
  have HCA : Aside0 (∀ W, Calls Tryz.prog 110 #[.string (chB 65), .string ⟨#[100, 119, 115, 68, 87, 83]⟩] W fun e w' => e = .returned (.bool false) ∧ Below W.heap.size W w') := ⟨fun W => by have h := cany_any 65 (by omega) (by omega) W; rw [hcl] at h; exact h⟩
  have hcv := fun W => conv_ch 65 (by omega) (by omega) W
  subst h00
  have HLT : Aside0 (∀ W, Calls Tryz.prog 108 #[.int .u8 65] W fun e w' => e = .returned (.bool true) ∧ Drawn0 W w') := ⟨fun W => by have h := let_pays W 65 (by omega) (by omega); rw [hlt] at h; exact h⟩
  clear S hst hk hp hc hk1 hn1 hn2 hsk1 hal hlt hcl
  go_enter Tryz.func76, Tryz.ntmps76
  go_wp2_with fail
  refine (sPeek HS0.out).mono ?_
  intro e w1 hr
  rw [HP.out] at hr
  obtain ⟨rfl, hS⟩ := hr
  have HS1 := Aside0.mk hS
  clear hS
  go_wp2_with fail
  refine (sChar HS1.out hkl).mono ?_
  intro e w2 hr
  rw [HC.out] at hr
  obtain ⟨rfl, hS⟩ := hr
  have HS2 := Aside0.mk hS
  clear hS
  have fc2_0 := HS2.out.cell 0 _ rfl
  have fr2_0 := HS2.out.free 0
  have fc2_1 := HS2.out.cell 1 _ rfl
  have fr2_1 := HS2.out.free 1
  have fc2_2 := HS2.out.cell 2 _ rfl
  have fr2_2 := HS2.out.free 2
  have fc2_3 := HS2.out.cell 4 _ rfl
  have fr2_3 := HS2.out.free 4
  have fc2_4 := HS2.out.cell 5 _ rfl
  have fr2_4 := HS2.out.free 5
  have ce2_0 := HS2.out.nest
  go_wp2_with fail
  refine (HLT.out _).mono ?_
  rintro e w8 ⟨rfl, ⟨nd, rfl⟩⟩
  go_wp2_with fail
  refine (HCA.out _).mono ?_
  intro e w3 hr
  obtain ⟨rfl, hb⟩ := hr
  have HS3 := Aside0.mk (((HS2.out.setT 0 _ { t with kind := 1 } rfl).draw _).stay hb)
  clear hb
  have fc3_0 := HS3.out.cell 0 _ rfl
  have fr3_0 := HS3.out.free 0
  have fc3_1 := HS3.out.cell 1 _ rfl
  have fr3_1 := HS3.out.free 1
  go_wp2
  go_end0
  rw [HL.out]
  exact ⟨rfl, ((HS3.out.setT 0 _ { t with kind := 7 } rfl).setT 1 _ { t with kind := 7, mode := 3 } rfl)⟩
set_option maxHeartbeats 8000000 in
set_option maxRecDepth 100000 in
theorem esc_out_z (b : ByteArray) (hal : AliasIs b) (S : St W0 m base g h A c p st ne t k w) (hst : t.st = st) (hk : st ≤ k) (y : Int) (hp : peekL p k = .ok y) (k1 : Nat) (hc : charL p k = .ok (122, k1)) (h00 : ne = 0) :
    Calls Tryz.prog 76 #[.pointer (some ⟨g, 0, none⟩), .pointer (some ⟨h, 0, none⟩)] w (RT W0 g h (fun t k w' => St W0 m base g h A c p st ne t k w') (escapeL (resolveL (rowsB b)) p ne k t)) := by
  have HS0 := Aside0.mk S
  have hgh := S.hn
  have hgh2 := Ne.symm S.hn
  have hkl := (peek_ok hp).1
  obtain ⟨nb, -, hk1, hn1, hn2⟩ := char_ok hc
  have hsk1 : st ≤ k1 := by omega
  have HSK := Aside0.mk hsk1
  have HST := Aside0.mk hst
  have HAL := Aside0.mk hal
  have HL : Aside0 (escapeL (resolveL (rowsB b)) p ne k t = .ok ({ t with kind := 7, mode := 4 }, k1)) := ⟨by unfold escapeL; rw [hp, thenF_ok, hc, thenF_ok]; show escL (resolveL (rowsB b)) p ne 122 k1 t = _; unfold escL; rw [if_neg (by decide), if_neg (by decide), if_neg (by decide), if_neg (by decide), if_neg (by decide), if_neg (by decide), if_neg (by decide), if_neg (fun q => q h00), if_neg (by decide), if_pos rfl]⟩
  have HP := Aside0.mk hp
  have HC := Aside0.mk hc
  have hlt : letB 122 = true := by decide
  have hcl : clsB 122 = false := by decide
  have HCA : Aside0 (∀ W, Calls Tryz.prog 110 #[.string (chB 122), .string ⟨#[100, 119, 115, 68, 87, 83]⟩] W fun e w' => e = .returned (.bool false) ∧ Below W.heap.size W w') := ⟨fun W => by have h := cany_any 122 (by omega) (by omega) W; rw [hcl] at h; exact h⟩
  have hcv := fun W => conv_ch 122 (by omega) (by omega) W
  subst h00
  have HLT : Aside0 (∀ W, Calls Tryz.prog 108 #[.int .u8 122] W fun e w' => e = .returned (.bool true) ∧ Drawn0 W w') := ⟨fun W => by have h := let_pays W 122 (by omega) (by omega); rw [hlt] at h; exact h⟩
  clear S hst hk hp hc hk1 hn1 hn2 hsk1 hal hlt hcl
  go_enter Tryz.func76, Tryz.ntmps76
  go_wp2_with fail
  refine (sPeek HS0.out).mono ?_
  intro e w1 hr
  rw [HP.out] at hr
  obtain ⟨rfl, hS⟩ := hr
  have HS1 := Aside0.mk hS
  clear hS
  go_wp2_with fail
  refine (sChar HS1.out hkl).mono ?_
  intro e w2 hr
  rw [HC.out] at hr
  obtain ⟨rfl, hS⟩ := hr
  have HS2 := Aside0.mk hS
  clear hS
  have fc2_0 := HS2.out.cell 0 _ rfl
  have fr2_0 := HS2.out.free 0
  have fc2_1 := HS2.out.cell 1 _ rfl
  have fr2_1 := HS2.out.free 1
  have fc2_2 := HS2.out.cell 2 _ rfl
  have fr2_2 := HS2.out.free 2
  have fc2_3 := HS2.out.cell 4 _ rfl
  have fr2_3 := HS2.out.free 4
  have fc2_4 := HS2.out.cell 5 _ rfl
  have fr2_4 := HS2.out.free 5
  have ce2_0 := HS2.out.nest
  go_wp2_with fail
  refine (HLT.out _).mono ?_
  rintro e w8 ⟨rfl, ⟨nd, rfl⟩⟩
  go_wp2_with fail
  refine (HCA.out _).mono ?_
  intro e w3 hr
  obtain ⟨rfl, hb⟩ := hr
  have HS3 := Aside0.mk (((HS2.out.setT 0 _ { t with kind := 1 } rfl).draw _).stay hb)
  clear hb
  have fc3_0 := HS3.out.cell 0 _ rfl
  have fr3_0 := HS3.out.free 0
  have fc3_1 := HS3.out.cell 1 _ rfl
  have fr3_1 := HS3.out.free 1
  go_wp2
  go_end0
  rw [HL.out]
  exact ⟨rfl, ((HS3.out.setT 0 _ { t with kind := 7 } rfl).setT 1 _ { t with kind := 7, mode := 4 } rfl)⟩
set_option maxHeartbeats 8000000 in
set_option maxRecDepth 100000 in
theorem esc_out_b (b : ByteArray) (hal : AliasIs b) (S : St W0 m base g h A c p st ne t k w) (hst : t.st = st) (hk : st ≤ k) (y : Int) (hp : peekL p k = .ok y) (k1 : Nat) (hc : charL p k = .ok (98, k1)) (h00 : ne = 0) :
    Calls Tryz.prog 76 #[.pointer (some ⟨g, 0, none⟩), .pointer (some ⟨h, 0, none⟩)] w (RT W0 g h (fun t k w' => St W0 m base g h A c p st ne t k w') (escapeL (resolveL (rowsB b)) p ne k t)) := by
  have HS0 := Aside0.mk S
  have hgh := S.hn
  have hgh2 := Ne.symm S.hn
  have hkl := (peek_ok hp).1
  obtain ⟨nb, -, hk1, hn1, hn2⟩ := char_ok hc
  have hsk1 : st ≤ k1 := by omega
  have HSK := Aside0.mk hsk1
  have HST := Aside0.mk hst
  have HAL := Aside0.mk hal
  have HL : Aside0 (escapeL (resolveL (rowsB b)) p ne k t = edgeL p k1 { t with kind := 1 } false) := ⟨by unfold escapeL; rw [hp, thenF_ok, hc, thenF_ok]; show escL (resolveL (rowsB b)) p ne 98 k1 t = _; unfold escL; rw [if_neg (by decide), if_neg (by decide), if_neg (by decide), if_neg (by decide), if_neg (by decide), if_neg (by decide), if_neg (by decide), if_neg (fun q => q h00), if_neg (by decide), if_neg (by decide), if_pos (by decide)]; first | rfl | simp only [show decide ((98 : Int) = 66) = false from rfl]⟩
  have HP := Aside0.mk hp
  have HC := Aside0.mk hc
  have hlt : letB 98 = true := by decide
  have hcl : clsB 98 = false := by decide
  have HCA : Aside0 (∀ W, Calls Tryz.prog 110 #[.string (chB 98), .string ⟨#[100, 119, 115, 68, 87, 83]⟩] W fun e w' => e = .returned (.bool false) ∧ Below W.heap.size W w') := ⟨fun W => by have h := cany_any 98 (by omega) (by omega) W; rw [hcl] at h; exact h⟩
  have hcv := fun W => conv_ch 98 (by omega) (by omega) W
  subst h00
  have HLT : Aside0 (∀ W, Calls Tryz.prog 108 #[.int .u8 98] W fun e w' => e = .returned (.bool true) ∧ Drawn0 W w') := ⟨fun W => by have h := let_pays W 98 (by omega) (by omega); rw [hlt] at h; exact h⟩
  clear S hst hk hp hc hk1 hn1 hn2 hsk1 hal hlt hcl
  go_enter Tryz.func76, Tryz.ntmps76
  go_wp2_with fail
  refine (sPeek HS0.out).mono ?_
  intro e w1 hr
  rw [HP.out] at hr
  obtain ⟨rfl, hS⟩ := hr
  have HS1 := Aside0.mk hS
  clear hS
  go_wp2_with fail
  refine (sChar HS1.out hkl).mono ?_
  intro e w2 hr
  rw [HC.out] at hr
  obtain ⟨rfl, hS⟩ := hr
  have HS2 := Aside0.mk hS
  clear hS
  have fc2_0 := HS2.out.cell 0 _ rfl
  have fr2_0 := HS2.out.free 0
  have fc2_1 := HS2.out.cell 1 _ rfl
  have fr2_1 := HS2.out.free 1
  have fc2_2 := HS2.out.cell 2 _ rfl
  have fr2_2 := HS2.out.free 2
  have fc2_3 := HS2.out.cell 4 _ rfl
  have fr2_3 := HS2.out.free 4
  have fc2_4 := HS2.out.cell 5 _ rfl
  have fr2_4 := HS2.out.free 5
  have ce2_0 := HS2.out.nest
  go_wp2_with fail
  refine (HLT.out _).mono ?_
  rintro e w8 ⟨rfl, ⟨nd, rfl⟩⟩
  go_wp2_with fail
  refine (HCA.out _).mono ?_
  intro e w3 hr
  obtain ⟨rfl, hb⟩ := hr
  have HS3 := Aside0.mk (((HS2.out.setT 0 _ { t with kind := 1 } rfl).draw _).stay hb)
  clear hb
  go_wp2_with fail
  refine (edge_any HS3.out HST.out false).mono ?_
  intro e w4 hr
  obtain ⟨X, hX⟩ : ∃ X, edgeL p k1 { t with kind := 1 } false = X := ⟨_, rfl⟩
  rw [hX] at hr
  rw [hX] at HL
  clear hX
  cases X with
  | error x =>
    obtain ⟨rfl, hB⟩ := hr
    have HBE := Aside0.mk hB
    clear hB
    go_wp2
    rw [HL.out]
    exact ⟨rfl, rfl, HBE.out⟩
  | ok x =>
    obtain ⟨rfl, hS⟩ := hr
    have HS4 := Aside0.mk hS
    clear hS
    go_wp2
    go_end0
    rw [HL.out]
    exact ⟨rfl, HS4.out⟩
set_option maxHeartbeats 8000000 in
set_option maxRecDepth 100000 in
theorem esc_out_bigb (b : ByteArray) (hal : AliasIs b) (S : St W0 m base g h A c p st ne t k w) (hst : t.st = st) (hk : st ≤ k) (y : Int) (hp : peekL p k = .ok y) (k1 : Nat) (hc : charL p k = .ok (66, k1)) (h00 : ne = 0) :
    Calls Tryz.prog 76 #[.pointer (some ⟨g, 0, none⟩), .pointer (some ⟨h, 0, none⟩)] w (RT W0 g h (fun t k w' => St W0 m base g h A c p st ne t k w') (escapeL (resolveL (rowsB b)) p ne k t)) := by
  have HS0 := Aside0.mk S
  have hgh := S.hn
  have hgh2 := Ne.symm S.hn
  have hkl := (peek_ok hp).1
  obtain ⟨nb, -, hk1, hn1, hn2⟩ := char_ok hc
  have hsk1 : st ≤ k1 := by omega
  have HSK := Aside0.mk hsk1
  have HST := Aside0.mk hst
  have HAL := Aside0.mk hal
  have HL : Aside0 (escapeL (resolveL (rowsB b)) p ne k t = edgeL p k1 { t with kind := 1 } true) := ⟨by unfold escapeL; rw [hp, thenF_ok, hc, thenF_ok]; show escL (resolveL (rowsB b)) p ne 66 k1 t = _; unfold escL; rw [if_neg (by decide), if_neg (by decide), if_neg (by decide), if_neg (by decide), if_neg (by decide), if_neg (by decide), if_neg (by decide), if_neg (fun q => q h00), if_neg (by decide), if_neg (by decide), if_pos (by decide)]; first | rfl | simp only [show decide ((66 : Int) = 66) = true from rfl]⟩
  have HP := Aside0.mk hp
  have HC := Aside0.mk hc
  have hlt : letB 66 = true := by decide
  have hcl : clsB 66 = false := by decide
  have HCA : Aside0 (∀ W, Calls Tryz.prog 110 #[.string (chB 66), .string ⟨#[100, 119, 115, 68, 87, 83]⟩] W fun e w' => e = .returned (.bool false) ∧ Below W.heap.size W w') := ⟨fun W => by have h := cany_any 66 (by omega) (by omega) W; rw [hcl] at h; exact h⟩
  have hcv := fun W => conv_ch 66 (by omega) (by omega) W
  subst h00
  have HLT : Aside0 (∀ W, Calls Tryz.prog 108 #[.int .u8 66] W fun e w' => e = .returned (.bool true) ∧ Drawn0 W w') := ⟨fun W => by have h := let_pays W 66 (by omega) (by omega); rw [hlt] at h; exact h⟩
  clear S hst hk hp hc hk1 hn1 hn2 hsk1 hal hlt hcl
  go_enter Tryz.func76, Tryz.ntmps76
  go_wp2_with fail
  refine (sPeek HS0.out).mono ?_
  intro e w1 hr
  rw [HP.out] at hr
  obtain ⟨rfl, hS⟩ := hr
  have HS1 := Aside0.mk hS
  clear hS
  go_wp2_with fail
  refine (sChar HS1.out hkl).mono ?_
  intro e w2 hr
  rw [HC.out] at hr
  obtain ⟨rfl, hS⟩ := hr
  have HS2 := Aside0.mk hS
  clear hS
  have fc2_0 := HS2.out.cell 0 _ rfl
  have fr2_0 := HS2.out.free 0
  have fc2_1 := HS2.out.cell 1 _ rfl
  have fr2_1 := HS2.out.free 1
  have fc2_2 := HS2.out.cell 2 _ rfl
  have fr2_2 := HS2.out.free 2
  have fc2_3 := HS2.out.cell 4 _ rfl
  have fr2_3 := HS2.out.free 4
  have fc2_4 := HS2.out.cell 5 _ rfl
  have fr2_4 := HS2.out.free 5
  have ce2_0 := HS2.out.nest
  go_wp2_with fail
  refine (HLT.out _).mono ?_
  rintro e w8 ⟨rfl, ⟨nd, rfl⟩⟩
  go_wp2_with fail
  refine (HCA.out _).mono ?_
  intro e w3 hr
  obtain ⟨rfl, hb⟩ := hr
  have HS3 := Aside0.mk (((HS2.out.setT 0 _ { t with kind := 1 } rfl).draw _).stay hb)
  clear hb
  go_wp2_with fail
  refine (edge_any HS3.out HST.out true).mono ?_
  intro e w4 hr
  obtain ⟨X, hX⟩ : ∃ X, edgeL p k1 { t with kind := 1 } true = X := ⟨_, rfl⟩
  rw [hX] at hr
  rw [hX] at HL
  clear hX
  cases X with
  | error x =>
    obtain ⟨rfl, hB⟩ := hr
    have HBE := Aside0.mk hB
    clear hB
    go_wp2
    rw [HL.out]
    exact ⟨rfl, rfl, HBE.out⟩
  | ok x =>
    obtain ⟨rfl, hS⟩ := hr
    have HS4 := Aside0.mk hS
    clear hS
    go_wp2
    go_end0
    rw [HL.out]
    exact ⟨rfl, HS4.out⟩
set_option maxHeartbeats 8000000 in
set_option maxRecDepth 100000 in
theorem esc_out_X (b : ByteArray) (hal : AliasIs b) (S : St W0 m base g h A c p st ne t k w) (hst : t.st = st) (hk : st ≤ k) (y : Int) (hp : peekL p k = .ok y) (k1 : Nat) (hc : charL p k = .ok (88, k1)) (h00 : ne = 0) :
    Calls Tryz.prog 76 #[.pointer (some ⟨g, 0, none⟩), .pointer (some ⟨h, 0, none⟩)] w (RT W0 g h (fun t k w' => St W0 m base g h A c p st ne t k w') (escapeL (resolveL (rowsB b)) p ne k t)) := by
  have HS0 := Aside0.mk S
  have hgh := S.hn
  have hgh2 := Ne.symm S.hn
  have hkl := (peek_ok hp).1
  obtain ⟨nb, -, hk1, hn1, hn2⟩ := char_ok hc
  have hsk1 : st ≤ k1 := by omega
  have HSK := Aside0.mk hsk1
  have HST := Aside0.mk hst
  have HAL := Aside0.mk hal
  have HL : Aside0 (escapeL (resolveL (rowsB b)) p ne k t = .ok ({ t with kind := 10 }, k1)) := ⟨by unfold escapeL; rw [hp, thenF_ok, hc, thenF_ok]; show escL (resolveL (rowsB b)) p ne 88 k1 t = _; unfold escL; rw [if_neg (by decide), if_neg (by decide), if_neg (by decide), if_neg (by decide), if_neg (by decide), if_neg (by decide), if_neg (by decide), if_neg (fun q => q h00), if_neg (by decide), if_neg (by decide), if_neg (by decide), if_pos rfl]⟩
  have HP := Aside0.mk hp
  have HC := Aside0.mk hc
  have hlt : letB 88 = true := by decide
  have hcl : clsB 88 = false := by decide
  have HCA : Aside0 (∀ W, Calls Tryz.prog 110 #[.string (chB 88), .string ⟨#[100, 119, 115, 68, 87, 83]⟩] W fun e w' => e = .returned (.bool false) ∧ Below W.heap.size W w') := ⟨fun W => by have h := cany_any 88 (by omega) (by omega) W; rw [hcl] at h; exact h⟩
  have hcv := fun W => conv_ch 88 (by omega) (by omega) W
  subst h00
  have HLT : Aside0 (∀ W, Calls Tryz.prog 108 #[.int .u8 88] W fun e w' => e = .returned (.bool true) ∧ Drawn0 W w') := ⟨fun W => by have h := let_pays W 88 (by omega) (by omega); rw [hlt] at h; exact h⟩
  clear S hst hk hp hc hk1 hn1 hn2 hsk1 hal hlt hcl
  go_enter Tryz.func76, Tryz.ntmps76
  go_wp2_with fail
  refine (sPeek HS0.out).mono ?_
  intro e w1 hr
  rw [HP.out] at hr
  obtain ⟨rfl, hS⟩ := hr
  have HS1 := Aside0.mk hS
  clear hS
  go_wp2_with fail
  refine (sChar HS1.out hkl).mono ?_
  intro e w2 hr
  rw [HC.out] at hr
  obtain ⟨rfl, hS⟩ := hr
  have HS2 := Aside0.mk hS
  clear hS
  have fc2_0 := HS2.out.cell 0 _ rfl
  have fr2_0 := HS2.out.free 0
  have fc2_1 := HS2.out.cell 1 _ rfl
  have fr2_1 := HS2.out.free 1
  have fc2_2 := HS2.out.cell 2 _ rfl
  have fr2_2 := HS2.out.free 2
  have fc2_3 := HS2.out.cell 4 _ rfl
  have fr2_3 := HS2.out.free 4
  have fc2_4 := HS2.out.cell 5 _ rfl
  have fr2_4 := HS2.out.free 5
  have ce2_0 := HS2.out.nest
  go_wp2_with fail
  refine (HLT.out _).mono ?_
  rintro e w8 ⟨rfl, ⟨nd, rfl⟩⟩
  go_wp2_with fail
  refine (HCA.out _).mono ?_
  intro e w3 hr
  obtain ⟨rfl, hb⟩ := hr
  have HS3 := Aside0.mk (((HS2.out.setT 0 _ { t with kind := 1 } rfl).draw _).stay hb)
  clear hb
  have fc3_0 := HS3.out.cell 0 _ rfl
  have fr3_0 := HS3.out.free 0
  go_wp2
  go_end0
  rw [HL.out]
  exact ⟨rfl, (HS3.out.setT 0 _ { t with kind := 10 } rfl)⟩
set_option maxHeartbeats 8000000 in
set_option maxRecDepth 100000 in
theorem esc_out_k (b : ByteArray) (hal : AliasIs b) (S : St W0 m base g h A c p st ne t k w) (hst : t.st = st) (hk : st ≤ k) (y : Int) (hp : peekL p k = .ok y) (k1 : Nat) (hc : charL p k = .ok (107, k1)) (h00 : ne = 0) :
    Calls Tryz.prog 76 #[.pointer (some ⟨g, 0, none⟩), .pointer (some ⟨h, 0, none⟩)] w (RT W0 g h (fun t k w' => St W0 m base g h A c p st ne t k w') (escapeL (resolveL (rowsB b)) p ne k t)) := by
  have HS0 := Aside0.mk S
  have hgh := S.hn
  have hgh2 := Ne.symm S.hn
  have hkl := (peek_ok hp).1
  obtain ⟨nb, -, hk1, hn1, hn2⟩ := char_ok hc
  have hsk1 : st ≤ k1 := by omega
  have HSK := Aside0.mk hsk1
  have HST := Aside0.mk hst
  have HAL := Aside0.mk hal
  have HL : Aside0 (escapeL (resolveL (rowsB b)) p ne k t = backL p k1 { t with kind := 1 }) := ⟨by unfold escapeL; rw [hp, thenF_ok, hc, thenF_ok]; show escL (resolveL (rowsB b)) p ne 107 k1 t = _; unfold escL; rw [if_neg (by decide), if_neg (by decide), if_neg (by decide), if_neg (by decide), if_neg (by decide), if_neg (by decide), if_neg (by decide), if_neg (fun q => q h00), if_neg (by decide), if_neg (by decide), if_neg (by decide), if_neg (by decide), if_pos rfl]⟩
  have HP := Aside0.mk hp
  have HC := Aside0.mk hc
  have hlt : letB 107 = true := by decide
  have hcl : clsB 107 = false := by decide
  have HCA : Aside0 (∀ W, Calls Tryz.prog 110 #[.string (chB 107), .string ⟨#[100, 119, 115, 68, 87, 83]⟩] W fun e w' => e = .returned (.bool false) ∧ Below W.heap.size W w') := ⟨fun W => by have h := cany_any 107 (by omega) (by omega) W; rw [hcl] at h; exact h⟩
  have hcv := fun W => conv_ch 107 (by omega) (by omega) W
  subst h00
  have HLT : Aside0 (∀ W, Calls Tryz.prog 108 #[.int .u8 107] W fun e w' => e = .returned (.bool true) ∧ Drawn0 W w') := ⟨fun W => by have h := let_pays W 107 (by omega) (by omega); rw [hlt] at h; exact h⟩
  clear S hst hk hp hc hk1 hn1 hn2 hsk1 hal hlt hcl
  go_enter Tryz.func76, Tryz.ntmps76
  go_wp2_with fail
  refine (sPeek HS0.out).mono ?_
  intro e w1 hr
  rw [HP.out] at hr
  obtain ⟨rfl, hS⟩ := hr
  have HS1 := Aside0.mk hS
  clear hS
  go_wp2_with fail
  refine (sChar HS1.out hkl).mono ?_
  intro e w2 hr
  rw [HC.out] at hr
  obtain ⟨rfl, hS⟩ := hr
  have HS2 := Aside0.mk hS
  clear hS
  have fc2_0 := HS2.out.cell 0 _ rfl
  have fr2_0 := HS2.out.free 0
  have fc2_1 := HS2.out.cell 1 _ rfl
  have fr2_1 := HS2.out.free 1
  have fc2_2 := HS2.out.cell 2 _ rfl
  have fr2_2 := HS2.out.free 2
  have fc2_3 := HS2.out.cell 4 _ rfl
  have fr2_3 := HS2.out.free 4
  have fc2_4 := HS2.out.cell 5 _ rfl
  have fr2_4 := HS2.out.free 5
  have ce2_0 := HS2.out.nest
  go_wp2_with fail
  refine (HLT.out _).mono ?_
  rintro e w8 ⟨rfl, ⟨nd, rfl⟩⟩
  go_wp2_with fail
  refine (HCA.out _).mono ?_
  intro e w3 hr
  obtain ⟨rfl, hb⟩ := hr
  have HS3 := Aside0.mk (((HS2.out.setT 0 _ { t with kind := 1 } rfl).draw _).stay hb)
  clear hb
  go_wp2_with fail
  refine (back_any HS3.out HST.out HSK.out).mono ?_
  intro e w4 hr
  obtain ⟨X, hX⟩ : ∃ X, backL p k1 { t with kind := 1 } = X := ⟨_, rfl⟩
  rw [hX] at hr
  rw [hX] at HL
  clear hX
  cases X with
  | error x =>
    obtain ⟨rfl, hB⟩ := hr
    have HBE := Aside0.mk hB
    clear hB
    go_wp2
    rw [HL.out]
    exact ⟨rfl, rfl, HBE.out⟩
  | ok x =>
    obtain ⟨rfl, hS⟩ := hr
    have HS4 := Aside0.mk hS
    clear hS
    go_wp2
    go_end0
    rw [HL.out]
    exact ⟨rfl, HS4.out⟩
set_option maxHeartbeats 8000000 in
set_option maxRecDepth 100000 in
theorem esc_out_num (b : ByteArray) (hal : AliasIs b) (S : St W0 m base g h A c p st ne t k w) (hst : t.st = st) (hk : st ≤ k) (ch : Int) (y : Int) (hp : peekL p k = .ok y) (k1 : Nat) (hc : charL p k = .ok (ch, k1)) (h0 : 0 ≤ ch) (h1 : ch < 128) (hlt : letB ch = false) (hdg : digB ch = true) (hcl : clsB ch = false) (n112 : ch ≠ 112) (n80 : ch ≠ 80) (n120 : ch ≠ 120) (n110 : ch ≠ 110) (n116 : ch ≠ 116) (n114 : ch ≠ 114) (n65 : ch ≠ 65) (n122 : ch ≠ 122) (n98 : ch ≠ 98) (n66 : ch ≠ 66) (n88 : ch ≠ 88) (n107 : ch ≠ 107) (h00 : ne = 0) (h49 : 49 ≤ ch) (h57 : ch ≤ 57) :
    Calls Tryz.prog 76 #[.pointer (some ⟨g, 0, none⟩), .pointer (some ⟨h, 0, none⟩)] w (RT W0 g h (fun t k w' => St W0 m base g h A c p st ne t k w') (escapeL (resolveL (rowsB b)) p ne k t)) := by
  have HS0 := Aside0.mk S
  have hgh := S.hn
  have hgh2 := Ne.symm S.hn
  have hkl := (peek_ok hp).1
  obtain ⟨nb, -, hk1, hn1, hn2⟩ := char_ok hc
  have hsk1 : st ≤ k1 := by omega
  have HSK := Aside0.mk hsk1
  have HST := Aside0.mk hst
  have HAL := Aside0.mk hal
  have HL : Aside0 (escapeL (resolveL (rowsB b)) p ne k t = .ok ({ t with kind := 9, a := ch - 48 }, k1)) := ⟨by unfold escapeL; rw [hp, thenF_ok, hc, thenF_ok]; show escL (resolveL (rowsB b)) p ne ch k1 t = _; unfold escL; rw [if_neg (fun q => q.elim (by omega) (fun q => absurd q.2 (by rw [hdg]; decide))), if_neg (fun q => absurd hcl (by rw [clsB_of q]; decide)), if_neg (fun q => q.elim n112 n80), if_neg n120, if_neg n110, if_neg n116, if_neg n114, if_neg (fun q => q h00), if_neg n65, if_neg n122, if_neg (fun q => q.elim n98 n66), if_neg n88, if_neg n107, if_pos ⟨h49, h57⟩]⟩
  have HP := Aside0.mk hp
  have HC := Aside0.mk hc
  have hd : decide (128 ≤ ch) = false := decide_eq_false (by omega)
  have e112 : (ch == 112) = false := by rw [beq_eq_false_iff_ne]; exact n112
  have f112 : (112 == ch) = false := by rw [beq_eq_false_iff_ne]; exact fun e => n112 e.symm
  have e80 : (ch == 80) = false := by rw [beq_eq_false_iff_ne]; exact n80
  have f80 : (80 == ch) = false := by rw [beq_eq_false_iff_ne]; exact fun e => n80 e.symm
  have e120 : (ch == 120) = false := by rw [beq_eq_false_iff_ne]; exact n120
  have f120 : (120 == ch) = false := by rw [beq_eq_false_iff_ne]; exact fun e => n120 e.symm
  have e110 : (ch == 110) = false := by rw [beq_eq_false_iff_ne]; exact n110
  have f110 : (110 == ch) = false := by rw [beq_eq_false_iff_ne]; exact fun e => n110 e.symm
  have e116 : (ch == 116) = false := by rw [beq_eq_false_iff_ne]; exact n116
  have f116 : (116 == ch) = false := by rw [beq_eq_false_iff_ne]; exact fun e => n116 e.symm
  have e114 : (ch == 114) = false := by rw [beq_eq_false_iff_ne]; exact n114
  have f114 : (114 == ch) = false := by rw [beq_eq_false_iff_ne]; exact fun e => n114 e.symm
  have e65 : (ch == 65) = false := by rw [beq_eq_false_iff_ne]; exact n65
  have f65 : (65 == ch) = false := by rw [beq_eq_false_iff_ne]; exact fun e => n65 e.symm
  have e122 : (ch == 122) = false := by rw [beq_eq_false_iff_ne]; exact n122
  have f122 : (122 == ch) = false := by rw [beq_eq_false_iff_ne]; exact fun e => n122 e.symm
  have e98 : (ch == 98) = false := by rw [beq_eq_false_iff_ne]; exact n98
  have f98 : (98 == ch) = false := by rw [beq_eq_false_iff_ne]; exact fun e => n98 e.symm
  have e66 : (ch == 66) = false := by rw [beq_eq_false_iff_ne]; exact n66
  have f66 : (66 == ch) = false := by rw [beq_eq_false_iff_ne]; exact fun e => n66 e.symm
  have e88 : (ch == 88) = false := by rw [beq_eq_false_iff_ne]; exact n88
  have f88 : (88 == ch) = false := by rw [beq_eq_false_iff_ne]; exact fun e => n88 e.symm
  have e107 : (ch == 107) = false := by rw [beq_eq_false_iff_ne]; exact n107
  have f107 : (107 == ch) = false := by rw [beq_eq_false_iff_ne]; exact fun e => n107 e.symm
  have g1 : decide (49 ≤ ch) = true := decide_eq_true h49
  have g2 : decide (ch ≤ 57) = true := decide_eq_true h57
  have HCA : Aside0 (∀ W, Calls Tryz.prog 110 #[.string (chB ch), .string ⟨#[100, 119, 115, 68, 87, 83]⟩] W fun e w' => e = .returned (.bool false) ∧ Below W.heap.size W w') := ⟨fun W => by have h := cany_any ch (by omega) (by omega) W; rw [hcl] at h; exact h⟩
  have hcv := fun W => conv_ch ch (by omega) (by omega) W
  subst h00
  have HLT : Aside0 (∀ W, Calls Tryz.prog 108 #[.int .u8 ch] W fun e w' => e = .returned (.bool false) ∧ Drawn0 W w') := ⟨fun W => by have h := let_pays W ch (by omega) (by omega); rw [hlt] at h; exact h⟩
  have HDG : Aside0 (∀ W, Calls Tryz.prog 109 #[.int .u8 ch] W fun e w' => e = .returned (.bool true) ∧ Drawn0 W w') := ⟨fun W => by have h := dig_pays W ch (by omega) (by omega); rw [hdg] at h; exact h⟩
  clear S hst hk hp hc hk1 hn1 hn2 hsk1 hal hlt hdg hcl n112 n80 n120 n110 n116 n114 n65 n122 n98 n66 n88 n107
  go_enter Tryz.func76, Tryz.ntmps76
  go_wp2_with fail
  refine (sPeek HS0.out).mono ?_
  intro e w1 hr
  rw [HP.out] at hr
  obtain ⟨rfl, hS⟩ := hr
  have HS1 := Aside0.mk hS
  clear hS
  go_wp2_with fail
  refine (sChar HS1.out hkl).mono ?_
  intro e w2 hr
  rw [HC.out] at hr
  obtain ⟨rfl, hS⟩ := hr
  have HS2 := Aside0.mk hS
  clear hS
  have fc2_0 := HS2.out.cell 0 _ rfl
  have fr2_0 := HS2.out.free 0
  have fc2_1 := HS2.out.cell 1 _ rfl
  have fr2_1 := HS2.out.free 1
  have fc2_2 := HS2.out.cell 2 _ rfl
  have fr2_2 := HS2.out.free 2
  have fc2_3 := HS2.out.cell 4 _ rfl
  have fr2_3 := HS2.out.free 4
  have fc2_4 := HS2.out.cell 5 _ rfl
  have fr2_4 := HS2.out.free 5
  have ce2_0 := HS2.out.nest
  go_wp2_with fail
  refine (HLT.out _).mono ?_
  rintro e w8 ⟨rfl, ⟨nd, rfl⟩⟩
  go_wp2_with fail
  refine (HDG.out _).mono ?_
  rintro e w9 ⟨rfl, ⟨nd2, rfl⟩⟩
  go_wp2_with fail
  refine (HCA.out _).mono ?_
  intro e w3 hr
  obtain ⟨rfl, hb⟩ := hr
  have HS3 := Aside0.mk (((HS2.out.setT 0 _ { t with kind := 1 } rfl).draw _).stay hb)
  clear hb
  have fc3_0 := HS3.out.cell 0 _ rfl
  have fr3_0 := HS3.out.free 0
  have fc3_1 := HS3.out.cell 2 _ rfl
  have fr3_1 := HS3.out.free 2
  go_wp2
  go_end0
  rw [HL.out]
  exact ⟨rfl, ((HS3.out.setT 0 _ { t with kind := 9 } rfl).setT 2 _ { t with kind := 9, a := ch - 48 } rfl)⟩
set_option maxHeartbeats 8000000 in
set_option maxRecDepth 100000 in
theorem esc_out_zero (b : ByteArray) (hal : AliasIs b) (S : St W0 m base g h A c p st ne t k w) (hst : t.st = st) (hk : st ≤ k) (ch : Int) (y : Int) (hp : peekL p k = .ok y) (k1 : Nat) (hc : charL p k = .ok (ch, k1)) (h0 : 0 ≤ ch) (h1 : ch < 128) (hlt : letB ch = false) (hdg : digB ch = true) (hcl : clsB ch = false) (n112 : ch ≠ 112) (n80 : ch ≠ 80) (n120 : ch ≠ 120) (n110 : ch ≠ 110) (n116 : ch ≠ 116) (n114 : ch ≠ 114) (n65 : ch ≠ 65) (n122 : ch ≠ 122) (n98 : ch ≠ 98) (n66 : ch ≠ 66) (n88 : ch ≠ 88) (n107 : ch ≠ 107) (h00 : ne = 0) (h49 : ¬ 49 ≤ ch) :
    Calls Tryz.prog 76 #[.pointer (some ⟨g, 0, none⟩), .pointer (some ⟨h, 0, none⟩)] w (RT W0 g h (fun t k w' => St W0 m base g h A c p st ne t k w') (escapeL (resolveL (rowsB b)) p ne k t)) := by
  have HS0 := Aside0.mk S
  have hgh := S.hn
  have hgh2 := Ne.symm S.hn
  have hkl := (peek_ok hp).1
  obtain ⟨nb, -, hk1, hn1, hn2⟩ := char_ok hc
  have hsk1 : st ≤ k1 := by omega
  have HSK := Aside0.mk hsk1
  have HST := Aside0.mk hst
  have HAL := Aside0.mk hal
  have HL : Aside0 (escapeL (resolveL (rowsB b)) p ne k t = .error (132, st)) := ⟨by unfold escapeL; rw [hp, thenF_ok, hc, thenF_ok]; show escL (resolveL (rowsB b)) p ne ch k1 t = _; unfold escL; rw [if_neg (fun q => q.elim (by omega) (fun q => absurd q.2 (by rw [hdg]; decide))), if_neg (fun q => absurd hcl (by rw [clsB_of q]; decide)), if_neg (fun q => q.elim n112 n80), if_neg n120, if_neg n110, if_neg n116, if_neg n114, if_neg (fun q => q h00), if_neg n65, if_neg n122, if_neg (fun q => q.elim n98 n66), if_neg n88, if_neg n107, if_neg (fun q => h49 q.1), hst]⟩
  have HP := Aside0.mk hp
  have HC := Aside0.mk hc
  have hd : decide (128 ≤ ch) = false := decide_eq_false (by omega)
  have e112 : (ch == 112) = false := by rw [beq_eq_false_iff_ne]; exact n112
  have f112 : (112 == ch) = false := by rw [beq_eq_false_iff_ne]; exact fun e => n112 e.symm
  have e80 : (ch == 80) = false := by rw [beq_eq_false_iff_ne]; exact n80
  have f80 : (80 == ch) = false := by rw [beq_eq_false_iff_ne]; exact fun e => n80 e.symm
  have e120 : (ch == 120) = false := by rw [beq_eq_false_iff_ne]; exact n120
  have f120 : (120 == ch) = false := by rw [beq_eq_false_iff_ne]; exact fun e => n120 e.symm
  have e110 : (ch == 110) = false := by rw [beq_eq_false_iff_ne]; exact n110
  have f110 : (110 == ch) = false := by rw [beq_eq_false_iff_ne]; exact fun e => n110 e.symm
  have e116 : (ch == 116) = false := by rw [beq_eq_false_iff_ne]; exact n116
  have f116 : (116 == ch) = false := by rw [beq_eq_false_iff_ne]; exact fun e => n116 e.symm
  have e114 : (ch == 114) = false := by rw [beq_eq_false_iff_ne]; exact n114
  have f114 : (114 == ch) = false := by rw [beq_eq_false_iff_ne]; exact fun e => n114 e.symm
  have e65 : (ch == 65) = false := by rw [beq_eq_false_iff_ne]; exact n65
  have f65 : (65 == ch) = false := by rw [beq_eq_false_iff_ne]; exact fun e => n65 e.symm
  have e122 : (ch == 122) = false := by rw [beq_eq_false_iff_ne]; exact n122
  have f122 : (122 == ch) = false := by rw [beq_eq_false_iff_ne]; exact fun e => n122 e.symm
  have e98 : (ch == 98) = false := by rw [beq_eq_false_iff_ne]; exact n98
  have f98 : (98 == ch) = false := by rw [beq_eq_false_iff_ne]; exact fun e => n98 e.symm
  have e66 : (ch == 66) = false := by rw [beq_eq_false_iff_ne]; exact n66
  have f66 : (66 == ch) = false := by rw [beq_eq_false_iff_ne]; exact fun e => n66 e.symm
  have e88 : (ch == 88) = false := by rw [beq_eq_false_iff_ne]; exact n88
  have f88 : (88 == ch) = false := by rw [beq_eq_false_iff_ne]; exact fun e => n88 e.symm
  have e107 : (ch == 107) = false := by rw [beq_eq_false_iff_ne]; exact n107
  have f107 : (107 == ch) = false := by rw [beq_eq_false_iff_ne]; exact fun e => n107 e.symm
  have g1 : decide (49 ≤ ch) = false := decide_eq_false h49
  have HCA : Aside0 (∀ W, Calls Tryz.prog 110 #[.string (chB ch), .string ⟨#[100, 119, 115, 68, 87, 83]⟩] W fun e w' => e = .returned (.bool false) ∧ Below W.heap.size W w') := ⟨fun W => by have h := cany_any ch (by omega) (by omega) W; rw [hcl] at h; exact h⟩
  have hcv := fun W => conv_ch ch (by omega) (by omega) W
  subst h00
  have HLT : Aside0 (∀ W, Calls Tryz.prog 108 #[.int .u8 ch] W fun e w' => e = .returned (.bool false) ∧ Drawn0 W w') := ⟨fun W => by have h := let_pays W ch (by omega) (by omega); rw [hlt] at h; exact h⟩
  have HDG : Aside0 (∀ W, Calls Tryz.prog 109 #[.int .u8 ch] W fun e w' => e = .returned (.bool true) ∧ Drawn0 W w') := ⟨fun W => by have h := dig_pays W ch (by omega) (by omega); rw [hdg] at h; exact h⟩
  clear S hst hk hp hc hk1 hn1 hn2 hsk1 hal hlt hdg h49 hcl n112 n80 n120 n110 n116 n114 n65 n122 n98 n66 n88 n107
  go_enter Tryz.func76, Tryz.ntmps76
  go_wp2_with fail
  refine (sPeek HS0.out).mono ?_
  intro e w1 hr
  rw [HP.out] at hr
  obtain ⟨rfl, hS⟩ := hr
  have HS1 := Aside0.mk hS
  clear hS
  go_wp2_with fail
  refine (sChar HS1.out hkl).mono ?_
  intro e w2 hr
  rw [HC.out] at hr
  obtain ⟨rfl, hS⟩ := hr
  have HS2 := Aside0.mk hS
  clear hS
  have fc2_0 := HS2.out.cell 0 _ rfl
  have fr2_0 := HS2.out.free 0
  have fc2_1 := HS2.out.cell 1 _ rfl
  have fr2_1 := HS2.out.free 1
  have fc2_2 := HS2.out.cell 2 _ rfl
  have fr2_2 := HS2.out.free 2
  have fc2_3 := HS2.out.cell 4 _ rfl
  have fr2_3 := HS2.out.free 4
  have fc2_4 := HS2.out.cell 5 _ rfl
  have fr2_4 := HS2.out.free 5
  have ce2_0 := HS2.out.nest
  go_wp2_with fail
  refine (HLT.out _).mono ?_
  rintro e w8 ⟨rfl, ⟨nd, rfl⟩⟩
  go_wp2_with fail
  refine (HDG.out _).mono ?_
  rintro e w9 ⟨rfl, ⟨nd2, rfl⟩⟩
  go_wp2_with fail
  refine (HCA.out _).mono ?_
  intro e w3 hr
  obtain ⟨rfl, hb⟩ := hr
  have HS3 := Aside0.mk (((HS2.out.setT 0 _ { t with kind := 1 } rfl).draw _).stay hb)
  clear hb
  go_wp2_with fail
  refine (sFail HS3.out 132).mono ?_
  intro e w4 hr
  obtain ⟨rfl, hB⟩ := hr
  have HBE := Aside0.mk hB
  clear hB
  go_wp2
  rw [HL.out]
  exact ⟨rfl, rfl, HBE.out⟩
set_option maxHeartbeats 8000000 in
set_option maxRecDepth 100000 in
theorem esc_out_let (b : ByteArray) (hal : AliasIs b) (S : St W0 m base g h A c p st ne t k w) (hst : t.st = st) (hk : st ≤ k) (ch : Int) (y : Int) (hp : peekL p k = .ok y) (k1 : Nat) (hc : charL p k = .ok (ch, k1)) (h0 : 0 ≤ ch) (h1 : ch < 128) (hlt : letB ch = true) (hcl : clsB ch = false) (n112 : ch ≠ 112) (n80 : ch ≠ 80) (n120 : ch ≠ 120) (n110 : ch ≠ 110) (n116 : ch ≠ 116) (n114 : ch ≠ 114) (n65 : ch ≠ 65) (n122 : ch ≠ 122) (n98 : ch ≠ 98) (n66 : ch ≠ 66) (n88 : ch ≠ 88) (n107 : ch ≠ 107) (h00 : ne = 0) (h57 : ¬ ch ≤ 57) :
    Calls Tryz.prog 76 #[.pointer (some ⟨g, 0, none⟩), .pointer (some ⟨h, 0, none⟩)] w (RT W0 g h (fun t k w' => St W0 m base g h A c p st ne t k w') (escapeL (resolveL (rowsB b)) p ne k t)) := by
  have HS0 := Aside0.mk S
  have hgh := S.hn
  have hgh2 := Ne.symm S.hn
  have hkl := (peek_ok hp).1
  obtain ⟨nb, -, hk1, hn1, hn2⟩ := char_ok hc
  have hsk1 : st ≤ k1 := by omega
  have HSK := Aside0.mk hsk1
  have HST := Aside0.mk hst
  have HAL := Aside0.mk hal
  have HL : Aside0 (escapeL (resolveL (rowsB b)) p ne k t = .error (132, st)) := ⟨by unfold escapeL; rw [hp, thenF_ok, hc, thenF_ok]; show escL (resolveL (rowsB b)) p ne ch k1 t = _; unfold escL; rw [if_neg (fun q => q.elim (by omega) (fun q => absurd q.1 (by rw [hlt]; decide))), if_neg (fun q => absurd hcl (by rw [clsB_of q]; decide)), if_neg (fun q => q.elim n112 n80), if_neg n120, if_neg n110, if_neg n116, if_neg n114, if_neg (fun q => q h00), if_neg n65, if_neg n122, if_neg (fun q => q.elim n98 n66), if_neg n88, if_neg n107, if_neg (fun q => h57 q.2), hst]⟩
  have HP := Aside0.mk hp
  have HC := Aside0.mk hc
  have hd : decide (128 ≤ ch) = false := decide_eq_false (by omega)
  have e112 : (ch == 112) = false := by rw [beq_eq_false_iff_ne]; exact n112
  have f112 : (112 == ch) = false := by rw [beq_eq_false_iff_ne]; exact fun e => n112 e.symm
  have e80 : (ch == 80) = false := by rw [beq_eq_false_iff_ne]; exact n80
  have f80 : (80 == ch) = false := by rw [beq_eq_false_iff_ne]; exact fun e => n80 e.symm
  have e120 : (ch == 120) = false := by rw [beq_eq_false_iff_ne]; exact n120
  have f120 : (120 == ch) = false := by rw [beq_eq_false_iff_ne]; exact fun e => n120 e.symm
  have e110 : (ch == 110) = false := by rw [beq_eq_false_iff_ne]; exact n110
  have f110 : (110 == ch) = false := by rw [beq_eq_false_iff_ne]; exact fun e => n110 e.symm
  have e116 : (ch == 116) = false := by rw [beq_eq_false_iff_ne]; exact n116
  have f116 : (116 == ch) = false := by rw [beq_eq_false_iff_ne]; exact fun e => n116 e.symm
  have e114 : (ch == 114) = false := by rw [beq_eq_false_iff_ne]; exact n114
  have f114 : (114 == ch) = false := by rw [beq_eq_false_iff_ne]; exact fun e => n114 e.symm
  have e65 : (ch == 65) = false := by rw [beq_eq_false_iff_ne]; exact n65
  have f65 : (65 == ch) = false := by rw [beq_eq_false_iff_ne]; exact fun e => n65 e.symm
  have e122 : (ch == 122) = false := by rw [beq_eq_false_iff_ne]; exact n122
  have f122 : (122 == ch) = false := by rw [beq_eq_false_iff_ne]; exact fun e => n122 e.symm
  have e98 : (ch == 98) = false := by rw [beq_eq_false_iff_ne]; exact n98
  have f98 : (98 == ch) = false := by rw [beq_eq_false_iff_ne]; exact fun e => n98 e.symm
  have e66 : (ch == 66) = false := by rw [beq_eq_false_iff_ne]; exact n66
  have f66 : (66 == ch) = false := by rw [beq_eq_false_iff_ne]; exact fun e => n66 e.symm
  have e88 : (ch == 88) = false := by rw [beq_eq_false_iff_ne]; exact n88
  have f88 : (88 == ch) = false := by rw [beq_eq_false_iff_ne]; exact fun e => n88 e.symm
  have e107 : (ch == 107) = false := by rw [beq_eq_false_iff_ne]; exact n107
  have f107 : (107 == ch) = false := by rw [beq_eq_false_iff_ne]; exact fun e => n107 e.symm
  have g1 : decide (49 ≤ ch) = true := decide_eq_true (by omega)
  have g2 : decide (ch ≤ 57) = false := decide_eq_false h57
  have HCA : Aside0 (∀ W, Calls Tryz.prog 110 #[.string (chB ch), .string ⟨#[100, 119, 115, 68, 87, 83]⟩] W fun e w' => e = .returned (.bool false) ∧ Below W.heap.size W w') := ⟨fun W => by have h := cany_any ch (by omega) (by omega) W; rw [hcl] at h; exact h⟩
  have hcv := fun W => conv_ch ch (by omega) (by omega) W
  subst h00
  have HLT : Aside0 (∀ W, Calls Tryz.prog 108 #[.int .u8 ch] W fun e w' => e = .returned (.bool true) ∧ Drawn0 W w') := ⟨fun W => by have h := let_pays W ch (by omega) (by omega); rw [hlt] at h; exact h⟩
  clear S hst hk hp hc hk1 hn1 hn2 hsk1 hal hlt h57 hcl n112 n80 n120 n110 n116 n114 n65 n122 n98 n66 n88 n107
  go_enter Tryz.func76, Tryz.ntmps76
  go_wp2_with fail
  refine (sPeek HS0.out).mono ?_
  intro e w1 hr
  rw [HP.out] at hr
  obtain ⟨rfl, hS⟩ := hr
  have HS1 := Aside0.mk hS
  clear hS
  go_wp2_with fail
  refine (sChar HS1.out hkl).mono ?_
  intro e w2 hr
  rw [HC.out] at hr
  obtain ⟨rfl, hS⟩ := hr
  have HS2 := Aside0.mk hS
  clear hS
  have fc2_0 := HS2.out.cell 0 _ rfl
  have fr2_0 := HS2.out.free 0
  have fc2_1 := HS2.out.cell 1 _ rfl
  have fr2_1 := HS2.out.free 1
  have fc2_2 := HS2.out.cell 2 _ rfl
  have fr2_2 := HS2.out.free 2
  have fc2_3 := HS2.out.cell 4 _ rfl
  have fr2_3 := HS2.out.free 4
  have fc2_4 := HS2.out.cell 5 _ rfl
  have fr2_4 := HS2.out.free 5
  have ce2_0 := HS2.out.nest
  go_wp2_with fail
  refine (HLT.out _).mono ?_
  rintro e w8 ⟨rfl, ⟨nd, rfl⟩⟩
  go_wp2_with fail
  refine (HCA.out _).mono ?_
  intro e w3 hr
  obtain ⟨rfl, hb⟩ := hr
  have HS3 := Aside0.mk (((HS2.out.setT 0 _ { t with kind := 1 } rfl).draw _).stay hb)
  clear hb
  go_wp2_with fail
  refine (sFail HS3.out 132).mono ?_
  intro e w4 hr
  obtain ⟨rfl, hB⟩ := hr
  have HBE := Aside0.mk hB
  clear hB
  go_wp2
  rw [HL.out]
  exact ⟨rfl, rfl, HBE.out⟩
theorem escape_any (b : ByteArray) (hal : AliasIs b) (S : St W0 m base g h A c p st ne t k w) (hst : t.st = st) (hk : st ≤ k) (hp0 : ∀ x ∈ p, 0 ≤ x ∧ x ≤ 255) :
    Calls Tryz.prog 76 #[.pointer (some ⟨g, 0, none⟩), .pointer (some ⟨h, 0, none⟩)] w (RT W0 g h (fun t k w' => St W0 m base g h A c p st ne t k w') (escapeL (resolveL (rowsB b)) p ne k t)) := by
  cases hp : peekL p k with
  | error x => exact esc_end b hal S hst hk x hp
  | ok y =>
    cases hc : charL p k with
    | error x => exact esc_bytes b hal S hst hk y hp x hc
    | ok a =>
      obtain ⟨ch, k1⟩ := a
      have h0 : 0 ≤ ch := by
        obtain ⟨n, hn, -, -, -⟩ := char_ok hc
        exact ((runeB_iff ch).1 (enc_readL (fun x hx => hp0 x (List.mem_of_mem_drop hx)) hn).1).1
      by_cases h128 : 128 ≤ ch
      · exact esc_high b hal S hst hk ch y hp k1 hc h128
      have h1 : ch < 128 := by omega
      cases hcl : clsB ch with
      | true =>
        unfold clsB at hcl
        rw [List.contains_iff_mem] at hcl
        simp only [List.mem_cons, List.not_mem_nil, or_false] at hcl
        rcases hcl with rfl | rfl | rfl | rfl | rfl | rfl
        · exact esc_cls100 b hal S hst hk y hp k1 hc
        · exact esc_cls119 b hal S hst hk y hp k1 hc
        · exact esc_cls115 b hal S hst hk y hp k1 hc
        · exact esc_cls68 b hal S hst hk y hp k1 hc
        · exact esc_cls87 b hal S hst hk y hp k1 hc
        · exact esc_cls83 b hal S hst hk y hp k1 hc
      | false =>
        by_cases n112 : ch = 112
        · subst n112; exact esc_p b hal S hst hk y hp k1 hc
        by_cases n80 : ch = 80
        · subst n80; exact esc_bigp b hal S hst hk y hp k1 hc
        by_cases n120 : ch = 120
        · subst n120; exact esc_x b hal S hst hk y hp k1 hc
        by_cases n110 : ch = 110
        · subst n110; exact esc_c110 b hal S hst hk y hp k1 hc
        by_cases n116 : ch = 116
        · subst n116; exact esc_c116 b hal S hst hk y hp k1 hc
        by_cases n114 : ch = 114
        · subst n114; exact esc_c114 b hal S hst hk y hp k1 hc
        cases hlt : letB ch with
        | true =>
          by_cases hne : ne = 0
          · by_cases n65 : ch = 65
            · subst n65; exact esc_out_A b hal S hst hk y hp k1 hc hne
            by_cases n122 : ch = 122
            · subst n122; exact esc_out_z b hal S hst hk y hp k1 hc hne
            by_cases n98 : ch = 98
            · subst n98; exact esc_out_b b hal S hst hk y hp k1 hc hne
            by_cases n66 : ch = 66
            · subst n66; exact esc_out_bigb b hal S hst hk y hp k1 hc hne
            by_cases n88 : ch = 88
            · subst n88; exact esc_out_X b hal S hst hk y hp k1 hc hne
            by_cases n107 : ch = 107
            · subst n107; exact esc_out_k b hal S hst hk y hp k1 hc hne
            exact esc_out_let b hal S hst hk ch y hp k1 hc h0 h1 hlt hcl n112 n80 n120 n110 n116 n114 n65 n122 n98 n66 n88 n107 hne (fun h => by
              unfold letB at hlt
              simp only [Bool.or_eq_true, Bool.and_eq_true, decide_eq_true_eq] at hlt
              omega)
          · exact esc_in_letter b hal S hst hk ch y hp k1 hc h0 h1 hlt hcl n112 n80 n120 n110 n116 n114 hne
        | false =>
          cases hdg : digB ch with
          | false => exact esc_plain b hal S hst hk ch y hp k1 hc h0 h1 hlt hdg
          | true =>
            by_cases hne : ne = 0
            · have hd := hdg
              unfold digB at hd
              simp only [Bool.and_eq_true, decide_eq_true_eq] at hd
              by_cases h49 : 49 ≤ ch
              · exact esc_out_num b hal S hst hk ch y hp k1 hc h0 h1 hlt hdg hcl n112 n80 n120 n110 n116 n114 (by omega) (by omega) (by omega) (by omega) (by omega) (by omega) hne h49 hd.2
              · exact esc_out_zero b hal S hst hk ch y hp k1 hc h0 h1 hlt hdg hcl n112 n80 n120 n110 n116 n114 (by omega) (by omega) (by omega) (by omega) (by omega) (by omega) hne h49
            · exact esc_in_digit b hal S hst hk ch y hp k1 hc h0 h1 hlt hdg hcl n112 n80 n120 n110 n116 n114 hne
end

end Go.Proofs.YtkipjalfgdfaiaaGreatDoor
