/- Words and walks that the kit's print wrote for laws of this seat, cut to the functions needed here. -/
import Derived.Test.YtaejogkinniakaaDoorEdP
import Derived.Test.YtaejogkinniakaaDoorProg
import Derived.Below
import Derived.Deep.Draws
import Derived.Deep.AppendLies
import Derived.Maps.AppendAt
import Derived.OwnWalk
import Derived.Laws.BytesArg
import Derived.Laws.MakeOwn
import Derived.Laws.OwnMore
import Derived.Deep.OwnRows
import Derived.Tactics
import Derived.Lib.ConvBytes
import Derived.Laws.Slices
import Derived.WalkKit
import Derived.KernelRfl
import Derived.RowKit3
import Derived.Deep.LoopGhost
import Derived.Deep.QuietTactic
import Derived.BigQuiet
import Derived.WideLaws
import Derived.Deep.DeepCutAuto
import Derived.Deep.CutBlock
import Derived.Deep.RegionHeld3
import Derived.Laws.Rows
import Derived.Lib.AppendStr
import Derived.ArgAppend
import Derived.Laws.IdiomCopy
import Derived.OrdersHeld
import Derived.Laws.BitsLemmas
import Derived.RowKit
import Derived.Test.YtaejogkinniakaaDoorWWords
import Derived.Test.YtaejogkinniakaaDoorWLast
import Derived.Test.YtaejogkinniakaaDoorWTab
import Derived.Test.YtaejogkinniakaaDoorWFour
import Derived.Test.YtaejogkinniakaaDoorWQPut
import Derived.Test.YtaejogkinniakaaDoorWApart
import Derived.Test.YtaejogkinniakaaDoorWArr
import Derived.Test.YtaejogkinniakaaDoorWZeros
import Derived.Test.YtaejogkinniakaaDoorWFoot
import Derived.Test.YtaejogkinniakaaDoorWKept
import Derived.Test.YtaejogkinniakaaDoorWShare
import Derived.Test.YtaejogkinniakaaDoorWN
import Derived.Test.YtaejogkinniakaaDoorWFootNe
import Derived.Test.YtaejogkinniakaaDoorWAt
import Derived.Test.YtaejogkinniakaaDoorWEqStruct
import Derived.Test.YtaejogkinniakaaDoorWRepsOne
import Derived.Test.YtaejogkinniakaaDoorWInv
import Derived.Test.YtaejogkinniakaaDoorWInvWords
import Derived.Test.YtaejogkinniakaaDoorWGuard
import Derived.Test.YtaejogkinniakaaDoorWNEv
import Derived.Test.YtaejogkinniakaaDoorWMore
namespace Go.Proofs.YtaejogkinniakaaDoor.PEd
open Go.RowKit Go.Proofs.YtaejogkinniakaaDoorW.PrintWords Go.Proofs.YtaejogkinniakaaDoorW.PrintLast Go.Proofs.YtaejogkinniakaaDoorW.PrintMore
attribute [local go_sem] max2_int min2_int max_two min_two max_three min_three max_four min_four   -- for this text's walks alone
set_option linter.unusedVariables false
set_option linter.unusedSimpArgs false




section
attribute [local go_sem] max2_int min2_int max_two min_two max_three min_three max_four min_four
/-! ### rubricatorref22_digit: function 24 -/
def rubricatorref22_digit.f (a0 : Int) : Option (Bool) := if a0 ≥ 48 then (some (decide (a0 ≤ 57))) else (some false)
set_option maxHeartbeats 8000000 in
set_option maxRecDepth 100000 in
theorem rubricatorref22_digit.calls (a0 : Int) (r : Bool) (w : World) (h : rubricatorref22_digit.f a0 = some r) :
    Calls Tryd.prog 24 #[.int .u8 a0] w fun e w' => e = .returned (.bool r) ∧ Drawn0 w w' := by
  have H : (if a0 ≥ 48 then (some (decide (a0 ≤ 57))) else (some false)) = some r := h
  clear h
  by_cases c2 : a0 ≥ 48
  · rw [if_pos c2] at H
    have c2b0 : decide (48 ≤ a0) = true := decide_eq_true c2
    clear c2
    obtain rfl := Option.some.inj H
    go_enter Tryd.func24, Tryd.ntmps24
    go_wp2
    go_ret
    exact ⟨by first | rfl | (simp; done) | (simp [*]; done), by repeat (first | exact Drawn0.refl _ | apply Drawn0.step)⟩
  · rw [if_neg c2] at H
    have c2b0 : decide (48 ≤ a0) = false := decide_eq_false c2
    clear c2
    obtain rfl := Option.some.inj H
    go_enter Tryd.func24, Tryd.ntmps24
    go_wp2
    go_ret
    exact ⟨by first | rfl | (simp; done) | (simp [*]; done), by repeat (first | exact Drawn0.refl _ | apply Drawn0.step)⟩


end

section
attribute [local go_sem] max2_int min2_int max_two min_two max_three min_three max_four min_four
/-! ### rubricatorref22_word: function 25 -/
def rubricatorref22_word.l0 : Nat → List Int → List Int → Int → Int → Option (ByteArray × Bool)
  | 0, _, _, _, _ => none
  | k + 1, x0, x6, x7, x8 => if x8 < x7 then (if 0 ≤ x8 then (if x8 < (x6.length : Int) then (if (rd x6 x8) = 125 then (if x8 ≤ (x0.length : Int) then (some (strOfNums (x0.take (x8 : Int).toNat), true)) else (none)) else (rubricatorref22_word.l0 k x0 x6 x7 (wrap64 (x8 + 1)))) else (none)) else (none)) else (some ((⟨#[]⟩ : ByteArray), false))
def rubricatorref22_word.f (k : Nat) (l0 : List Int) : Option (ByteArray × Bool) := rubricatorref22_word.l0 k l0 l0 (l0.length : Int) 0
theorem rubricatorref22_word.mono_l : ∀ k, (∀ y0 y1 y2 y3, LeO (rubricatorref22_word.l0 k y0 y1 y2 y3) (rubricatorref22_word.l0 (k + 1) y0 y1 y2 y3))
  | 0 => fun _ _ _ _ r h => by simp [rubricatorref22_word.l0] at h
  | k + 1 => by
    have ih0 := rubricatorref22_word.mono_l k
    · intro y0 y1 y2 y3
      unfold rubricatorref22_word.l0
      repeat' first
      | (with_reducible exact ih0 _ _ _ _)
      | (with_reducible exact LeO.refl _)
      | (with_reducible exact LeO.none _)
      | (with_reducible refine LeO.ite ?_ ?_)
      | (with_reducible refine LeO.bind ?_ (fun _ => ?_))
      | exact ih0 _ _ _ _
      | exact LeO.none _
      | refine LeO.ite ?_ ?_
      | refine LeO.bind ?_ (fun _ => ?_)
theorem rubricatorref22_word.mono : ∀ a0 k, LeO (rubricatorref22_word.f k a0) (rubricatorref22_word.f (k + 1) a0) := by
  intro a0 k
  have ih0 := rubricatorref22_word.mono_l k
  unfold rubricatorref22_word.f
  repeat' first
      | (with_reducible exact ih0 _ _ _ _)
      | (with_reducible exact LeO.refl _)
      | (with_reducible exact LeO.none _)
      | (with_reducible refine LeO.ite ?_ ?_)
      | (with_reducible refine LeO.bind ?_ (fun _ => ?_))
      | exact ih0 _ _ _ _
      | exact LeO.none _
      | refine LeO.ite ?_ ?_
      | refine LeO.bind ?_ (fun _ => ?_)
set_option maxHeartbeats 8000000 in
set_option maxRecDepth 100000 in
theorem rubricatorref22_word.calls (k : Nat) (A0 : Option Addr) (c0 : Nat) (l0 : List Int) (r1 : ByteArray) (r2 : Bool) (w : World) (hr0 : Kd.C (Kd.int .u8) w A0 l0.length l0) (hc0 : l0.length ≤ c0) (h : rubricatorref22_word.f k l0 = some (r1, r2)) :
    Calls Tryd.prog 25 #[.slice A0 l0.length c0] w fun e w' => e = .returned (.tuple #[.string r1, .bool r2]) ∧ Drawn0 w w' := by
  have HR0 := Aside0.mk hr0
  have HC0 := Aside0.mk hc0
  clear hr0 hc0
  have H : (rubricatorref22_word.l0 k l0 l0 (l0.length : Int) 0) = some (r1, r2) := h
  clear h
  have H' := Aside0.mk H
  clear H
  go_enter Tryd.func25, Tryd.ntmps25
  go_wp2
  go_loopg [8] k (fun kq v8 w' => ∃ (x8_1 : Int), v8 = .int .i64 x8_1 ∧ Aside0 (rubricatorref22_word.l0 kq l0 l0 (l0.length : Int) x8_1 = some (r1, r2)) ∧ Aside0 (kq ≤ k) ∧ Drawn0 w w')
  case atStart => exact ⟨(0), (by first | rfl | (simp; done) | (simp [*]; done)), H', ⟨Nat.le_refl _⟩, by repeat (first | exact Drawn0.refl _ | apply Drawn0.step)⟩
  case round =>
    clear H'
    obtain ⟨x8_1, rfl, HA, HK1, ⟨m1, rfl⟩⟩ := hrel
    cases gk with
    | zero => exact absurd HA.out (by simp [rubricatorref22_word.l0])
    | succ k1 =>
      have H := HA.out
      clear HA
      simp only [rubricatorref22_word.l0] at H
      by_cases c2 : x8_1 < (l0.length : Int)
      · rw [if_pos c2] at H
        have c2b0 : decide (x8_1 < (l0.length : Int)) = true := decide_eq_true c2
        clear c2
        by_cases c3 : 0 ≤ x8_1
        · rw [if_pos c3] at H
          have c3b0 : decide (0 ≤ x8_1) = true := decide_eq_true c3
          clear c3
          by_cases c4 : x8_1 < (l0.length : Int)
          · rw [if_pos c4] at H
            have c4b0 : decide (x8_1 < (l0.length : Int)) = true := decide_eq_true c4
            clear c4
            by_cases c5 : (rd l0 x8_1) = 125
            · rw [if_pos c5] at H
              have c5b0 : ((rd l0 x8_1) == 125) = true := beq_iff_eq.mpr c5
              have c5b1 : ((rd l0 x8_1) != 125) = false := bne_eq_false_iff_eq.mpr c5
              clear c5
              have c6b0 := eq_true (of_decide_eq_true (by first | (with_reducible assumption) | assumption) : 0 ≤ x8_1)
              by_cases c7 : x8_1 ≤ (l0.length : Int)
              · rw [if_pos c7] at H
                have c7b0 := eq_true c7
                have c7b1 : decide (x8_1 ≤ (l0.length : Int)) = true := decide_eq_true c7
                clear c7
                simp only [Option.some.injEq, Prod.mk.injEq] at H
                obtain ⟨rfl, rfl⟩ := H
                have p144 : 0 ≤ (x8_1 : Int) := of_decide_eq_true (by first | (with_reducible assumption) | assumption)
                have q144 : x8_1 < (l0.length : Int) := of_decide_eq_true (by first | (with_reducible assumption) | assumption)
                obtain ⟨ad144, e144, hx144_0⟩ := Kd.at_int HR0.out x8_1 p144 q144
                cases e144
                replace p144 := eq_true p144
                replace q144 := eq_true q144
                obtain ⟨i08, hi08, _, hsz8, _⟩ := info_parts info5
                obtain ⟨hcut8, hA8, hC8⟩ := print_take_of (P := Tryd.prog) (Value.int .u8) 0 22 5 .i64 Tryd.underlying22 hi08 hsz8 (some ad144) c0 l0 x8_1 (of_decide_eq_true (by first | (with_reducible assumption) | assumption)) (of_decide_eq_true (by first | (with_reducible assumption) | assumption)) HC0.out
                have HR145 := Aside0.mk (Kd.C_of_reads (h1 := fun _ => rfl) (hA8 _ (Kd.reads_of_C HR0.out)))
                have HC145 := Aside0.mk hC8
                clear hA8 hC8 hi08 hsz8
                have hcv9 := Kd.C_string (P := Tryd.prog) (A := (some ad144)) (c := c0) Tryd.underlying22 Tryd.underlying5 Tryd.underlying9 HR145.out
                have hcv9d := fun m_ => Kd.C_string (P := Tryd.prog) (A := (some ad144)) (c := c0) Tryd.underlying22 Tryd.underlying5 Tryd.underlying9 (Kd.C_below HR145.out (pw_below_drewN (Below.refl _ _) m_))
                obtain ⟨nq9, hnq9⟩ : ∃ n_, (List.take ((x8_1 : Int)).toNat l0).length = n_ := ⟨_, rfl⟩
                rw [hnq9] at hcut8 hcv9 hcv9d
                clear hnq9
                go_wp2
                go_ret2
                exact ⟨by first | rfl | (simp; done) | (simp [*]; done), by repeat (first | exact Drawn0.refl _ | apply Drawn0.step)⟩
              · rw [if_neg c7] at H
                exact absurd H (by simp)
            · rw [if_neg c5] at H
              have c5b0 : ((rd l0 x8_1) == 125) = false := beq_eq_false_iff_ne.mpr c5
              have c5b1 : ((rd l0 x8_1) != 125) = true := bne_iff_ne.mpr c5
              have H' := Aside0.mk H
              clear H
              have p144 : 0 ≤ (x8_1 : Int) := of_decide_eq_true (by first | (with_reducible assumption) | assumption)
              have q144 : x8_1 < (l0.length : Int) := of_decide_eq_true (by first | (with_reducible assumption) | assumption)
              obtain ⟨ad144, e144, hx144_0⟩ := Kd.at_int HR0.out x8_1 p144 q144
              cases e144
              replace p144 := eq_true p144
              replace q144 := eq_true q144
              go_wp2
              go_roundg k1
              case measure => have := HK1.out; omega
              case rel => exact ⟨(wrap64 (x8_1 + 1)), (by first | rfl | (simp; done) | (simp [*]; done)), H', ⟨by have := HK1.out; omega⟩, by repeat (first | exact Drawn0.refl _ | apply Drawn0.step)⟩
          · rw [if_neg c4] at H
            exact absurd H (by simp)
        · rw [if_neg c3] at H
          exact absurd H (by simp)
      · rw [if_neg c2] at H
        have c2b0 : decide (x8_1 < (l0.length : Int)) = false := decide_eq_false c2
        clear c2
        simp only [Option.some.injEq, Prod.mk.injEq] at H
        obtain ⟨rfl, rfl⟩ := H
        go_wp2
        go_ret2
        exact ⟨by first | rfl | (simp; done) | (simp [*]; done), by repeat (first | exact Drawn0.refl _ | apply Drawn0.step)⟩


end

section
attribute [local go_sem] max2_int min2_int max_two min_two max_three min_three max_four min_four
/-! ### rubricatorref22_group: function 26 -/
mutual
def rubricatorref22_group.j0 : Nat → ByteArray → Int → List ByteArray → Int → Bool → Bool → Option (Int × Int)
  | 0, _, _, _, _, _, _ => none
  | k + 1, x0, x1, x2, x8, x9, x10 => rubricatorref22_group.l0 k x0 x1 x2 x8 x9 x10 0
def rubricatorref22_group.l0 : Nat → ByteArray → Int → List ByteArray → Int → Bool → Bool → Int → Option (Int × Int)
  | 0, _, _, _, _, _, _, _ => none
  | k + 1, x0, x1, x2, x8, x9, x10, x11 => if x11 < (x0.size : Int) then (if 0 ≤ x11 then (if x9 = true then ((rubricatorref22_digit.f (bt x0 x11)).bind fun t146 => (if t146 = true then (if x10 = true then (if (bt x0 x11) ≥ 97 then (if (bt x0 x11) ≤ 122 then (rubricatorref22_group.l0 k x0 x1 x2 (wrap64 ((wrap64 (10 * x8)) + (((bt x0 x11) - 48) % 256))) t146 true (wrap64 (x11 + 1))) else (if (bt x0 x11) ≥ 65 then (if (bt x0 x11) ≤ 90 then (rubricatorref22_group.l0 k x0 x1 x2 (wrap64 ((wrap64 (10 * x8)) + (((bt x0 x11) - 48) % 256))) t146 true (wrap64 (x11 + 1))) else (if (bt x0 x11) = 95 then (rubricatorref22_group.l0 k x0 x1 x2 (wrap64 ((wrap64 (10 * x8)) + (((bt x0 x11) - 48) % 256))) t146 true (wrap64 (x11 + 1))) else ((rubricatorref22_digit.f (bt x0 x11)).bind fun t147 => (if t147 = true then (rubricatorref22_group.l0 k x0 x1 x2 (wrap64 ((wrap64 (10 * x8)) + (((bt x0 x11) - 48) % 256))) t146 (decide (x11 > 0)) (wrap64 (x11 + 1))) else (rubricatorref22_group.l0 k x0 x1 x2 (wrap64 ((wrap64 (10 * x8)) + (((bt x0 x11) - 48) % 256))) t146 false (wrap64 (x11 + 1))))))) else (if (bt x0 x11) = 95 then (rubricatorref22_group.l0 k x0 x1 x2 (wrap64 ((wrap64 (10 * x8)) + (((bt x0 x11) - 48) % 256))) t146 true (wrap64 (x11 + 1))) else ((rubricatorref22_digit.f (bt x0 x11)).bind fun t148 => (if t148 = true then (rubricatorref22_group.l0 k x0 x1 x2 (wrap64 ((wrap64 (10 * x8)) + (((bt x0 x11) - 48) % 256))) t146 (decide (x11 > 0)) (wrap64 (x11 + 1))) else (rubricatorref22_group.l0 k x0 x1 x2 (wrap64 ((wrap64 (10 * x8)) + (((bt x0 x11) - 48) % 256))) t146 false (wrap64 (x11 + 1)))))))) else (if (bt x0 x11) ≥ 65 then (if (bt x0 x11) ≤ 90 then (rubricatorref22_group.l0 k x0 x1 x2 (wrap64 ((wrap64 (10 * x8)) + (((bt x0 x11) - 48) % 256))) t146 true (wrap64 (x11 + 1))) else (if (bt x0 x11) = 95 then (rubricatorref22_group.l0 k x0 x1 x2 (wrap64 ((wrap64 (10 * x8)) + (((bt x0 x11) - 48) % 256))) t146 true (wrap64 (x11 + 1))) else ((rubricatorref22_digit.f (bt x0 x11)).bind fun t149 => (if t149 = true then (rubricatorref22_group.l0 k x0 x1 x2 (wrap64 ((wrap64 (10 * x8)) + (((bt x0 x11) - 48) % 256))) t146 (decide (x11 > 0)) (wrap64 (x11 + 1))) else (rubricatorref22_group.l0 k x0 x1 x2 (wrap64 ((wrap64 (10 * x8)) + (((bt x0 x11) - 48) % 256))) t146 false (wrap64 (x11 + 1))))))) else (if (bt x0 x11) = 95 then (rubricatorref22_group.l0 k x0 x1 x2 (wrap64 ((wrap64 (10 * x8)) + (((bt x0 x11) - 48) % 256))) t146 true (wrap64 (x11 + 1))) else ((rubricatorref22_digit.f (bt x0 x11)).bind fun t150 => (if t150 = true then (rubricatorref22_group.l0 k x0 x1 x2 (wrap64 ((wrap64 (10 * x8)) + (((bt x0 x11) - 48) % 256))) t146 (decide (x11 > 0)) (wrap64 (x11 + 1))) else (rubricatorref22_group.l0 k x0 x1 x2 (wrap64 ((wrap64 (10 * x8)) + (((bt x0 x11) - 48) % 256))) t146 false (wrap64 (x11 + 1)))))))) else (rubricatorref22_group.l0 k x0 x1 x2 (wrap64 ((wrap64 (10 * x8)) + (((bt x0 x11) - 48) % 256))) t146 false (wrap64 (x11 + 1)))) else (if x10 = true then (if (bt x0 x11) ≥ 97 then (if (bt x0 x11) ≤ 122 then (rubricatorref22_group.l0 k x0 x1 x2 x8 t146 true (wrap64 (x11 + 1))) else (if (bt x0 x11) ≥ 65 then (if (bt x0 x11) ≤ 90 then (rubricatorref22_group.l0 k x0 x1 x2 x8 t146 true (wrap64 (x11 + 1))) else (if (bt x0 x11) = 95 then (rubricatorref22_group.l0 k x0 x1 x2 x8 t146 true (wrap64 (x11 + 1))) else ((rubricatorref22_digit.f (bt x0 x11)).bind fun t151 => (if t151 = true then (rubricatorref22_group.l0 k x0 x1 x2 x8 t146 (decide (x11 > 0)) (wrap64 (x11 + 1))) else (rubricatorref22_group.l0 k x0 x1 x2 x8 t146 false (wrap64 (x11 + 1))))))) else (if (bt x0 x11) = 95 then (rubricatorref22_group.l0 k x0 x1 x2 x8 t146 true (wrap64 (x11 + 1))) else ((rubricatorref22_digit.f (bt x0 x11)).bind fun t152 => (if t152 = true then (rubricatorref22_group.l0 k x0 x1 x2 x8 t146 (decide (x11 > 0)) (wrap64 (x11 + 1))) else (rubricatorref22_group.l0 k x0 x1 x2 x8 t146 false (wrap64 (x11 + 1)))))))) else (if (bt x0 x11) ≥ 65 then (if (bt x0 x11) ≤ 90 then (rubricatorref22_group.l0 k x0 x1 x2 x8 t146 true (wrap64 (x11 + 1))) else (if (bt x0 x11) = 95 then (rubricatorref22_group.l0 k x0 x1 x2 x8 t146 true (wrap64 (x11 + 1))) else ((rubricatorref22_digit.f (bt x0 x11)).bind fun t153 => (if t153 = true then (rubricatorref22_group.l0 k x0 x1 x2 x8 t146 (decide (x11 > 0)) (wrap64 (x11 + 1))) else (rubricatorref22_group.l0 k x0 x1 x2 x8 t146 false (wrap64 (x11 + 1))))))) else (if (bt x0 x11) = 95 then (rubricatorref22_group.l0 k x0 x1 x2 x8 t146 true (wrap64 (x11 + 1))) else ((rubricatorref22_digit.f (bt x0 x11)).bind fun t154 => (if t154 = true then (rubricatorref22_group.l0 k x0 x1 x2 x8 t146 (decide (x11 > 0)) (wrap64 (x11 + 1))) else (rubricatorref22_group.l0 k x0 x1 x2 x8 t146 false (wrap64 (x11 + 1)))))))) else (rubricatorref22_group.l0 k x0 x1 x2 x8 t146 false (wrap64 (x11 + 1)))))) else (if x10 = true then (if (bt x0 x11) ≥ 97 then (if (bt x0 x11) ≤ 122 then (rubricatorref22_group.l0 k x0 x1 x2 x8 false true (wrap64 (x11 + 1))) else (if (bt x0 x11) ≥ 65 then (if (bt x0 x11) ≤ 90 then (rubricatorref22_group.l0 k x0 x1 x2 x8 false true (wrap64 (x11 + 1))) else (if (bt x0 x11) = 95 then (rubricatorref22_group.l0 k x0 x1 x2 x8 false true (wrap64 (x11 + 1))) else ((rubricatorref22_digit.f (bt x0 x11)).bind fun t155 => (if t155 = true then (rubricatorref22_group.l0 k x0 x1 x2 x8 false (decide (x11 > 0)) (wrap64 (x11 + 1))) else (rubricatorref22_group.l0 k x0 x1 x2 x8 false false (wrap64 (x11 + 1))))))) else (if (bt x0 x11) = 95 then (rubricatorref22_group.l0 k x0 x1 x2 x8 false true (wrap64 (x11 + 1))) else ((rubricatorref22_digit.f (bt x0 x11)).bind fun t156 => (if t156 = true then (rubricatorref22_group.l0 k x0 x1 x2 x8 false (decide (x11 > 0)) (wrap64 (x11 + 1))) else (rubricatorref22_group.l0 k x0 x1 x2 x8 false false (wrap64 (x11 + 1)))))))) else (if (bt x0 x11) ≥ 65 then (if (bt x0 x11) ≤ 90 then (rubricatorref22_group.l0 k x0 x1 x2 x8 false true (wrap64 (x11 + 1))) else (if (bt x0 x11) = 95 then (rubricatorref22_group.l0 k x0 x1 x2 x8 false true (wrap64 (x11 + 1))) else ((rubricatorref22_digit.f (bt x0 x11)).bind fun t157 => (if t157 = true then (rubricatorref22_group.l0 k x0 x1 x2 x8 false (decide (x11 > 0)) (wrap64 (x11 + 1))) else (rubricatorref22_group.l0 k x0 x1 x2 x8 false false (wrap64 (x11 + 1))))))) else (if (bt x0 x11) = 95 then (rubricatorref22_group.l0 k x0 x1 x2 x8 false true (wrap64 (x11 + 1))) else ((rubricatorref22_digit.f (bt x0 x11)).bind fun t158 => (if t158 = true then (rubricatorref22_group.l0 k x0 x1 x2 x8 false (decide (x11 > 0)) (wrap64 (x11 + 1))) else (rubricatorref22_group.l0 k x0 x1 x2 x8 false false (wrap64 (x11 + 1)))))))) else (rubricatorref22_group.l0 k x0 x1 x2 x8 false false (wrap64 (x11 + 1))))) else (none)) else (if x9 = true then (if x8 > x1 then (some (0, 151)) else (some (x8, 0))) else (if x10 = true then (rubricatorref22_group.l1 k x0 x2 (x2.length : Int) 0) else (some (0, 220))))
def rubricatorref22_group.l1 : Nat → ByteArray → List ByteArray → Int → Int → Option (Int × Int)
  | 0, _, _, _, _ => none
  | k + 1, x0, x83, x84, x85 => if x85 < x84 then (if 0 ≤ x85 then (if x85 < (x83.length : Int) then (if x85 > 0 then (if (rdOf ByteArray.empty x83 x85).toList = x0.toList then (some (x85, 0)) else (rubricatorref22_group.l1 k x0 x83 x84 (wrap64 (x85 + 1)))) else (rubricatorref22_group.l1 k x0 x83 x84 (wrap64 (x85 + 1)))) else (none)) else (none)) else (some (0, 151))
end
def rubricatorref22_group.f (k : Nat) (a0 : ByteArray) (a1 : Int) (l2 : List ByteArray) : Option (Int × Int) := if (a0.size : Int) ≥ 1 then (rubricatorref22_group.j0 k a0 a1 l2 0 (decide ((a0.size : Int) ≤ 3)) (decide ((a0.size : Int) ≥ 1))) else (rubricatorref22_group.j0 k a0 a1 l2 0 false (decide ((a0.size : Int) ≥ 1)))
theorem rubricatorref22_group.mono_l : ∀ k, (∀ y0 y1 y2 y3 y4 y5, LeO (rubricatorref22_group.j0 k y0 y1 y2 y3 y4 y5) (rubricatorref22_group.j0 (k + 1) y0 y1 y2 y3 y4 y5)) ∧ (∀ y0 y1 y2 y3 y4 y5 y6, LeO (rubricatorref22_group.l0 k y0 y1 y2 y3 y4 y5 y6) (rubricatorref22_group.l0 (k + 1) y0 y1 y2 y3 y4 y5 y6)) ∧ (∀ y0 y1 y2 y3, LeO (rubricatorref22_group.l1 k y0 y1 y2 y3) (rubricatorref22_group.l1 (k + 1) y0 y1 y2 y3))
  | 0 => ⟨fun _ _ _ _ _ _ r h => by simp [rubricatorref22_group.j0] at h, fun _ _ _ _ _ _ _ r h => by simp [rubricatorref22_group.l0] at h, fun _ _ _ _ r h => by simp [rubricatorref22_group.l1] at h⟩
  | k + 1 => by
    obtain ⟨ih0, ih1, ih2⟩ := rubricatorref22_group.mono_l k
    refine ⟨?_, ?_, ?_⟩
    · intro y0 y1 y2 y3 y4 y5
      unfold rubricatorref22_group.j0
      repeat' first
      | (with_reducible exact ih0 _ _ _ _ _ _)
      | (with_reducible exact ih1 _ _ _ _ _ _ _)
      | (with_reducible exact ih2 _ _ _ _)
      | (with_reducible exact LeO.refl _)
      | (with_reducible exact LeO.none _)
      | (with_reducible refine LeO.ite ?_ ?_)
      | (with_reducible refine LeO.bind ?_ (fun _ => ?_))
      | exact ih0 _ _ _ _ _ _
      | exact ih1 _ _ _ _ _ _ _
      | exact ih2 _ _ _ _
      | exact LeO.none _
      | refine LeO.ite ?_ ?_
      | refine LeO.bind ?_ (fun _ => ?_)
    · intro y0 y1 y2 y3 y4 y5 y6
      unfold rubricatorref22_group.l0
      repeat' first
      | (with_reducible exact ih0 _ _ _ _ _ _)
      | (with_reducible exact ih1 _ _ _ _ _ _ _)
      | (with_reducible exact ih2 _ _ _ _)
      | (with_reducible exact LeO.refl _)
      | (with_reducible exact LeO.none _)
      | (with_reducible refine LeO.ite ?_ ?_)
      | (with_reducible refine LeO.bind ?_ (fun _ => ?_))
      | exact ih0 _ _ _ _ _ _
      | exact ih1 _ _ _ _ _ _ _
      | exact ih2 _ _ _ _
      | exact LeO.none _
      | refine LeO.ite ?_ ?_
      | refine LeO.bind ?_ (fun _ => ?_)
    · intro y0 y1 y2 y3
      unfold rubricatorref22_group.l1
      repeat' first
      | (with_reducible exact ih0 _ _ _ _ _ _)
      | (with_reducible exact ih1 _ _ _ _ _ _ _)
      | (with_reducible exact ih2 _ _ _ _)
      | (with_reducible exact LeO.refl _)
      | (with_reducible exact LeO.none _)
      | (with_reducible refine LeO.ite ?_ ?_)
      | (with_reducible refine LeO.bind ?_ (fun _ => ?_))
      | exact ih0 _ _ _ _ _ _
      | exact ih1 _ _ _ _ _ _ _
      | exact ih2 _ _ _ _
      | exact LeO.none _
      | refine LeO.ite ?_ ?_
      | refine LeO.bind ?_ (fun _ => ?_)
theorem rubricatorref22_group.mono : ∀ a0 a1 a2 k, LeO (rubricatorref22_group.f k a0 a1 a2) (rubricatorref22_group.f (k + 1) a0 a1 a2) := by
  intro a0 a1 a2 k
  obtain ⟨ih0, ih1, ih2⟩ := rubricatorref22_group.mono_l k
  unfold rubricatorref22_group.f
  repeat' first
      | (with_reducible exact ih0 _ _ _ _ _ _)
      | (with_reducible exact ih1 _ _ _ _ _ _ _)
      | (with_reducible exact ih2 _ _ _ _)
      | (with_reducible exact LeO.refl _)
      | (with_reducible exact LeO.none _)
      | (with_reducible refine LeO.ite ?_ ?_)
      | (with_reducible refine LeO.bind ?_ (fun _ => ?_))
      | exact ih0 _ _ _ _ _ _
      | exact ih1 _ _ _ _ _ _ _
      | exact ih2 _ _ _ _
      | exact LeO.none _
      | refine LeO.ite ?_ ?_
      | refine LeO.bind ?_ (fun _ => ?_)
set_option maxHeartbeats 8000000 in
set_option maxRecDepth 100000 in
theorem rubricatorref22_group.calls (k : Nat) (a0 : ByteArray) (a1 : Int) (A2 : Option Addr) (c2 : Nat) (l2 : List ByteArray) (r1 : Int) (r2 : Int) (w : World) (hr2 : Kd.C Kd.string w A2 l2.length l2) (hc2 : l2.length ≤ c2) (h : rubricatorref22_group.f k a0 a1 l2 = some (r1, r2)) :
    Calls Tryd.prog 26 #[.string a0, .int .i64 a1, .slice A2 l2.length c2] w fun e w' => e = .returned (.tuple #[.int .i64 r1, .int .i64 r2]) ∧ Drawn0 w w' := by
  have HR2 := Aside0.mk hr2
  have HC2 := Aside0.mk hc2
  clear hr2 hc2
  have H : (if (a0.size : Int) ≥ 1 then (rubricatorref22_group.j0 k a0 a1 l2 0 (decide ((a0.size : Int) ≤ 3)) (decide ((a0.size : Int) ≥ 1))) else (rubricatorref22_group.j0 k a0 a1 l2 0 false (decide ((a0.size : Int) ≥ 1)))) = some (r1, r2) := h
  clear h
  have HC4 := Aside0.mk H
  clear H
  go_enter Tryd.func26, Tryd.ntmps26
  go_upto_region 1 with (fail)
  go_cut [8, 9, 10] (fun v8 v9 v10 wc => ∃ (kq : Nat) (x8_3 : Int) (x9_3 : Bool) (x10_3 : Bool), v8 = .int .i64 x8_3 ∧ v9 = .bool x9_3 ∧ v10 = .bool x10_3 ∧ Aside0 (rubricatorref22_group.j0 kq a0 a1 l2 x8_3 x9_3 x10_3 = some (r1, r2)) ∧ Aside0 (kq ≤ k) ∧ Drawn0 w wc)
  case first =>
    have H := HC4.out
    clear HC4
    by_cases c5 : (a0.size : Int) ≥ 1
    · rw [if_pos c5] at H
      have c5b0 : decide (1 ≤ (a0.size : Int)) = true := decide_eq_true c5
      have c5b1 : decide (1 ≤ a0.size) = true := decide_eq_true (by omega)
      clear c5
      (first | rw [c5b0] | (simp only [i64_w, i32_w]; rw [c5b0]) | skip)
      have H' := Aside0.mk H
      clear H
      go_wp2
      go_meet
      case rel => exact ⟨_, (0), (decide ((a0.size : Int) ≤ 3)), (decide ((a0.size : Int) ≥ 1)), (by first | rfl | (simp; done) | (simp [*]; done)), (by first | rfl | (simp; done) | (simp [*]; done)), (by first | rfl | (simp; done) | (simp [*]; done)), H', ⟨by first | omega | exact Nat.le_refl _⟩, by repeat (first | exact Drawn0.refl _ | apply Drawn0.step)⟩
    · rw [if_neg c5] at H
      have c5b0 : decide (1 ≤ (a0.size : Int)) = false := decide_eq_false c5
      have c5b1 : decide (1 ≤ a0.size) = false := decide_eq_false (by omega)
      clear c5
      (first | rw [c5b0] | (simp only [i64_w, i32_w]; rw [c5b0]) | skip)
      have H' := Aside0.mk H
      clear H
      go_wp2
      go_meet
      case rel => exact ⟨_, (0), (false), (decide ((a0.size : Int) ≥ 1)), (by first | rfl | (simp; done) | (simp [*]; done)), (by first | rfl | (simp; done) | (simp [*]; done)), (by first | rfl | (simp; done) | (simp [*]; done)), H', ⟨by first | omega | exact Nat.le_refl _⟩, by repeat (first | exact Drawn0.refl _ | apply Drawn0.step)⟩
  case rest =>
    clear HC4
    try clear c2
    try clear p2
    try clear c5
    try clear c5b0
    try clear c5b1
    obtain ⟨kq, x8_3, x9_3, x10_3, rfl, rfl, rfl, HA, HJ3, ⟨mc3, rfl⟩⟩ := hcut
    cases kq with
    | zero => exact absurd HA.out (by simp [rubricatorref22_group.j0])
    | succ kj3 =>
      have H := HA.out
      clear HA
      simp only [rubricatorref22_group.j0] at H
      have H' := Aside0.mk H
      clear H
      go_wp2
      go_loopg [8, 9, 10, 11] kj3 (fun kq v8 v9 v10 v11 w' => ∃ (x8_2 : Int) (x9_2 : Bool) (x10_2 : Bool) (x11_2 : Int), v8 = .int .i64 x8_2 ∧ v9 = .bool x9_2 ∧ v10 = .bool x10_2 ∧ v11 = .int .i64 x11_2 ∧ Aside0 (rubricatorref22_group.l0 kq a0 a1 l2 x8_2 x9_2 x10_2 x11_2 = some (r1, r2)) ∧ Aside0 (kq ≤ kj3) ∧ Drawn0 w w')
      case atStart => exact ⟨(x8_3), (x9_3), (x10_3), (0), (by first | rfl | (simp; done) | (simp [*]; done)), (by first | rfl | (simp; done) | (simp [*]; done)), (by first | rfl | (simp; done) | (simp [*]; done)), (by first | rfl | (simp; done) | (simp [*]; done)), H', ⟨Nat.le_refl _⟩, by repeat (first | exact Drawn0.refl _ | apply Drawn0.step)⟩
      case round =>
        clear H'
        try clear c2
        try clear p2
        try clear c3
        try clear c5
        try clear c5b0
        try clear c5b1
        try clear p2
        obtain ⟨x8_2, x9_2, x10_2, x11_2, rfl, rfl, rfl, rfl, HA, HK2, ⟨m2, rfl⟩⟩ := hrel
        cases gk with
        | zero => exact absurd HA.out (by simp [rubricatorref22_group.l0])
        | succ k2 =>
          have H := HA.out
          clear HA
          simp only [rubricatorref22_group.l0] at H
          by_cases c6 : x11_2 < (a0.size : Int)
          · rw [if_pos c6] at H
            have c6b0 : decide (x11_2 < (a0.size : Int)) = true := decide_eq_true c6
            clear c6
            by_cases c7 : 0 ≤ x11_2
            · rw [if_pos c7] at H
              have c7b0 : decide (0 ≤ x11_2) = true := decide_eq_true c7
              clear c7
              by_cases c9 : x9_2 = true
              · subst c9
                have H1 : ((rubricatorref22_digit.f (bt a0 x11_2)).bind fun t146 => (if t146 = true then (if x10_2 = true then (if (bt a0 x11_2) ≥ 97 then (if (bt a0 x11_2) ≤ 122 then (rubricatorref22_group.l0 k2 a0 a1 l2 (wrap64 ((wrap64 (10 * x8_2)) + (((bt a0 x11_2) - 48) % 256))) t146 true (wrap64 (x11_2 + 1))) else (if (bt a0 x11_2) ≥ 65 then (if (bt a0 x11_2) ≤ 90 then (rubricatorref22_group.l0 k2 a0 a1 l2 (wrap64 ((wrap64 (10 * x8_2)) + (((bt a0 x11_2) - 48) % 256))) t146 true (wrap64 (x11_2 + 1))) else (if (bt a0 x11_2) = 95 then (rubricatorref22_group.l0 k2 a0 a1 l2 (wrap64 ((wrap64 (10 * x8_2)) + (((bt a0 x11_2) - 48) % 256))) t146 true (wrap64 (x11_2 + 1))) else ((rubricatorref22_digit.f (bt a0 x11_2)).bind fun t147 => (if t147 = true then (rubricatorref22_group.l0 k2 a0 a1 l2 (wrap64 ((wrap64 (10 * x8_2)) + (((bt a0 x11_2) - 48) % 256))) t146 (decide (x11_2 > 0)) (wrap64 (x11_2 + 1))) else (rubricatorref22_group.l0 k2 a0 a1 l2 (wrap64 ((wrap64 (10 * x8_2)) + (((bt a0 x11_2) - 48) % 256))) t146 false (wrap64 (x11_2 + 1))))))) else (if (bt a0 x11_2) = 95 then (rubricatorref22_group.l0 k2 a0 a1 l2 (wrap64 ((wrap64 (10 * x8_2)) + (((bt a0 x11_2) - 48) % 256))) t146 true (wrap64 (x11_2 + 1))) else ((rubricatorref22_digit.f (bt a0 x11_2)).bind fun t148 => (if t148 = true then (rubricatorref22_group.l0 k2 a0 a1 l2 (wrap64 ((wrap64 (10 * x8_2)) + (((bt a0 x11_2) - 48) % 256))) t146 (decide (x11_2 > 0)) (wrap64 (x11_2 + 1))) else (rubricatorref22_group.l0 k2 a0 a1 l2 (wrap64 ((wrap64 (10 * x8_2)) + (((bt a0 x11_2) - 48) % 256))) t146 false (wrap64 (x11_2 + 1)))))))) else (if (bt a0 x11_2) ≥ 65 then (if (bt a0 x11_2) ≤ 90 then (rubricatorref22_group.l0 k2 a0 a1 l2 (wrap64 ((wrap64 (10 * x8_2)) + (((bt a0 x11_2) - 48) % 256))) t146 true (wrap64 (x11_2 + 1))) else (if (bt a0 x11_2) = 95 then (rubricatorref22_group.l0 k2 a0 a1 l2 (wrap64 ((wrap64 (10 * x8_2)) + (((bt a0 x11_2) - 48) % 256))) t146 true (wrap64 (x11_2 + 1))) else ((rubricatorref22_digit.f (bt a0 x11_2)).bind fun t149 => (if t149 = true then (rubricatorref22_group.l0 k2 a0 a1 l2 (wrap64 ((wrap64 (10 * x8_2)) + (((bt a0 x11_2) - 48) % 256))) t146 (decide (x11_2 > 0)) (wrap64 (x11_2 + 1))) else (rubricatorref22_group.l0 k2 a0 a1 l2 (wrap64 ((wrap64 (10 * x8_2)) + (((bt a0 x11_2) - 48) % 256))) t146 false (wrap64 (x11_2 + 1))))))) else (if (bt a0 x11_2) = 95 then (rubricatorref22_group.l0 k2 a0 a1 l2 (wrap64 ((wrap64 (10 * x8_2)) + (((bt a0 x11_2) - 48) % 256))) t146 true (wrap64 (x11_2 + 1))) else ((rubricatorref22_digit.f (bt a0 x11_2)).bind fun t150 => (if t150 = true then (rubricatorref22_group.l0 k2 a0 a1 l2 (wrap64 ((wrap64 (10 * x8_2)) + (((bt a0 x11_2) - 48) % 256))) t146 (decide (x11_2 > 0)) (wrap64 (x11_2 + 1))) else (rubricatorref22_group.l0 k2 a0 a1 l2 (wrap64 ((wrap64 (10 * x8_2)) + (((bt a0 x11_2) - 48) % 256))) t146 false (wrap64 (x11_2 + 1)))))))) else (rubricatorref22_group.l0 k2 a0 a1 l2 (wrap64 ((wrap64 (10 * x8_2)) + (((bt a0 x11_2) - 48) % 256))) t146 false (wrap64 (x11_2 + 1)))) else (if x10_2 = true then (if (bt a0 x11_2) ≥ 97 then (if (bt a0 x11_2) ≤ 122 then (rubricatorref22_group.l0 k2 a0 a1 l2 x8_2 t146 true (wrap64 (x11_2 + 1))) else (if (bt a0 x11_2) ≥ 65 then (if (bt a0 x11_2) ≤ 90 then (rubricatorref22_group.l0 k2 a0 a1 l2 x8_2 t146 true (wrap64 (x11_2 + 1))) else (if (bt a0 x11_2) = 95 then (rubricatorref22_group.l0 k2 a0 a1 l2 x8_2 t146 true (wrap64 (x11_2 + 1))) else ((rubricatorref22_digit.f (bt a0 x11_2)).bind fun t151 => (if t151 = true then (rubricatorref22_group.l0 k2 a0 a1 l2 x8_2 t146 (decide (x11_2 > 0)) (wrap64 (x11_2 + 1))) else (rubricatorref22_group.l0 k2 a0 a1 l2 x8_2 t146 false (wrap64 (x11_2 + 1))))))) else (if (bt a0 x11_2) = 95 then (rubricatorref22_group.l0 k2 a0 a1 l2 x8_2 t146 true (wrap64 (x11_2 + 1))) else ((rubricatorref22_digit.f (bt a0 x11_2)).bind fun t152 => (if t152 = true then (rubricatorref22_group.l0 k2 a0 a1 l2 x8_2 t146 (decide (x11_2 > 0)) (wrap64 (x11_2 + 1))) else (rubricatorref22_group.l0 k2 a0 a1 l2 x8_2 t146 false (wrap64 (x11_2 + 1)))))))) else (if (bt a0 x11_2) ≥ 65 then (if (bt a0 x11_2) ≤ 90 then (rubricatorref22_group.l0 k2 a0 a1 l2 x8_2 t146 true (wrap64 (x11_2 + 1))) else (if (bt a0 x11_2) = 95 then (rubricatorref22_group.l0 k2 a0 a1 l2 x8_2 t146 true (wrap64 (x11_2 + 1))) else ((rubricatorref22_digit.f (bt a0 x11_2)).bind fun t153 => (if t153 = true then (rubricatorref22_group.l0 k2 a0 a1 l2 x8_2 t146 (decide (x11_2 > 0)) (wrap64 (x11_2 + 1))) else (rubricatorref22_group.l0 k2 a0 a1 l2 x8_2 t146 false (wrap64 (x11_2 + 1))))))) else (if (bt a0 x11_2) = 95 then (rubricatorref22_group.l0 k2 a0 a1 l2 x8_2 t146 true (wrap64 (x11_2 + 1))) else ((rubricatorref22_digit.f (bt a0 x11_2)).bind fun t154 => (if t154 = true then (rubricatorref22_group.l0 k2 a0 a1 l2 x8_2 t146 (decide (x11_2 > 0)) (wrap64 (x11_2 + 1))) else (rubricatorref22_group.l0 k2 a0 a1 l2 x8_2 t146 false (wrap64 (x11_2 + 1)))))))) else (rubricatorref22_group.l0 k2 a0 a1 l2 x8_2 t146 false (wrap64 (x11_2 + 1)))))) = some (r1, r2) := by rw [if_pos rfl] at H; exact H
                clear H
                have H := H1
                clear H1
                replace H := Option.bind_eq_some_iff.mp H
                obtain ⟨t146, A100, H⟩ := H
                replace H : (if t146 = true then (if x10_2 = true then (if (bt a0 x11_2) ≥ 97 then (if (bt a0 x11_2) ≤ 122 then (rubricatorref22_group.l0 k2 a0 a1 l2 (wrap64 ((wrap64 (10 * x8_2)) + (((bt a0 x11_2) - 48) % 256))) t146 true (wrap64 (x11_2 + 1))) else (if (bt a0 x11_2) ≥ 65 then (if (bt a0 x11_2) ≤ 90 then (rubricatorref22_group.l0 k2 a0 a1 l2 (wrap64 ((wrap64 (10 * x8_2)) + (((bt a0 x11_2) - 48) % 256))) t146 true (wrap64 (x11_2 + 1))) else (if (bt a0 x11_2) = 95 then (rubricatorref22_group.l0 k2 a0 a1 l2 (wrap64 ((wrap64 (10 * x8_2)) + (((bt a0 x11_2) - 48) % 256))) t146 true (wrap64 (x11_2 + 1))) else ((rubricatorref22_digit.f (bt a0 x11_2)).bind fun t147 => (if t147 = true then (rubricatorref22_group.l0 k2 a0 a1 l2 (wrap64 ((wrap64 (10 * x8_2)) + (((bt a0 x11_2) - 48) % 256))) t146 (decide (x11_2 > 0)) (wrap64 (x11_2 + 1))) else (rubricatorref22_group.l0 k2 a0 a1 l2 (wrap64 ((wrap64 (10 * x8_2)) + (((bt a0 x11_2) - 48) % 256))) t146 false (wrap64 (x11_2 + 1))))))) else (if (bt a0 x11_2) = 95 then (rubricatorref22_group.l0 k2 a0 a1 l2 (wrap64 ((wrap64 (10 * x8_2)) + (((bt a0 x11_2) - 48) % 256))) t146 true (wrap64 (x11_2 + 1))) else ((rubricatorref22_digit.f (bt a0 x11_2)).bind fun t148 => (if t148 = true then (rubricatorref22_group.l0 k2 a0 a1 l2 (wrap64 ((wrap64 (10 * x8_2)) + (((bt a0 x11_2) - 48) % 256))) t146 (decide (x11_2 > 0)) (wrap64 (x11_2 + 1))) else (rubricatorref22_group.l0 k2 a0 a1 l2 (wrap64 ((wrap64 (10 * x8_2)) + (((bt a0 x11_2) - 48) % 256))) t146 false (wrap64 (x11_2 + 1)))))))) else (if (bt a0 x11_2) ≥ 65 then (if (bt a0 x11_2) ≤ 90 then (rubricatorref22_group.l0 k2 a0 a1 l2 (wrap64 ((wrap64 (10 * x8_2)) + (((bt a0 x11_2) - 48) % 256))) t146 true (wrap64 (x11_2 + 1))) else (if (bt a0 x11_2) = 95 then (rubricatorref22_group.l0 k2 a0 a1 l2 (wrap64 ((wrap64 (10 * x8_2)) + (((bt a0 x11_2) - 48) % 256))) t146 true (wrap64 (x11_2 + 1))) else ((rubricatorref22_digit.f (bt a0 x11_2)).bind fun t149 => (if t149 = true then (rubricatorref22_group.l0 k2 a0 a1 l2 (wrap64 ((wrap64 (10 * x8_2)) + (((bt a0 x11_2) - 48) % 256))) t146 (decide (x11_2 > 0)) (wrap64 (x11_2 + 1))) else (rubricatorref22_group.l0 k2 a0 a1 l2 (wrap64 ((wrap64 (10 * x8_2)) + (((bt a0 x11_2) - 48) % 256))) t146 false (wrap64 (x11_2 + 1))))))) else (if (bt a0 x11_2) = 95 then (rubricatorref22_group.l0 k2 a0 a1 l2 (wrap64 ((wrap64 (10 * x8_2)) + (((bt a0 x11_2) - 48) % 256))) t146 true (wrap64 (x11_2 + 1))) else ((rubricatorref22_digit.f (bt a0 x11_2)).bind fun t150 => (if t150 = true then (rubricatorref22_group.l0 k2 a0 a1 l2 (wrap64 ((wrap64 (10 * x8_2)) + (((bt a0 x11_2) - 48) % 256))) t146 (decide (x11_2 > 0)) (wrap64 (x11_2 + 1))) else (rubricatorref22_group.l0 k2 a0 a1 l2 (wrap64 ((wrap64 (10 * x8_2)) + (((bt a0 x11_2) - 48) % 256))) t146 false (wrap64 (x11_2 + 1)))))))) else (rubricatorref22_group.l0 k2 a0 a1 l2 (wrap64 ((wrap64 (10 * x8_2)) + (((bt a0 x11_2) - 48) % 256))) t146 false (wrap64 (x11_2 + 1)))) else (if x10_2 = true then (if (bt a0 x11_2) ≥ 97 then (if (bt a0 x11_2) ≤ 122 then (rubricatorref22_group.l0 k2 a0 a1 l2 x8_2 t146 true (wrap64 (x11_2 + 1))) else (if (bt a0 x11_2) ≥ 65 then (if (bt a0 x11_2) ≤ 90 then (rubricatorref22_group.l0 k2 a0 a1 l2 x8_2 t146 true (wrap64 (x11_2 + 1))) else (if (bt a0 x11_2) = 95 then (rubricatorref22_group.l0 k2 a0 a1 l2 x8_2 t146 true (wrap64 (x11_2 + 1))) else ((rubricatorref22_digit.f (bt a0 x11_2)).bind fun t151 => (if t151 = true then (rubricatorref22_group.l0 k2 a0 a1 l2 x8_2 t146 (decide (x11_2 > 0)) (wrap64 (x11_2 + 1))) else (rubricatorref22_group.l0 k2 a0 a1 l2 x8_2 t146 false (wrap64 (x11_2 + 1))))))) else (if (bt a0 x11_2) = 95 then (rubricatorref22_group.l0 k2 a0 a1 l2 x8_2 t146 true (wrap64 (x11_2 + 1))) else ((rubricatorref22_digit.f (bt a0 x11_2)).bind fun t152 => (if t152 = true then (rubricatorref22_group.l0 k2 a0 a1 l2 x8_2 t146 (decide (x11_2 > 0)) (wrap64 (x11_2 + 1))) else (rubricatorref22_group.l0 k2 a0 a1 l2 x8_2 t146 false (wrap64 (x11_2 + 1)))))))) else (if (bt a0 x11_2) ≥ 65 then (if (bt a0 x11_2) ≤ 90 then (rubricatorref22_group.l0 k2 a0 a1 l2 x8_2 t146 true (wrap64 (x11_2 + 1))) else (if (bt a0 x11_2) = 95 then (rubricatorref22_group.l0 k2 a0 a1 l2 x8_2 t146 true (wrap64 (x11_2 + 1))) else ((rubricatorref22_digit.f (bt a0 x11_2)).bind fun t153 => (if t153 = true then (rubricatorref22_group.l0 k2 a0 a1 l2 x8_2 t146 (decide (x11_2 > 0)) (wrap64 (x11_2 + 1))) else (rubricatorref22_group.l0 k2 a0 a1 l2 x8_2 t146 false (wrap64 (x11_2 + 1))))))) else (if (bt a0 x11_2) = 95 then (rubricatorref22_group.l0 k2 a0 a1 l2 x8_2 t146 true (wrap64 (x11_2 + 1))) else ((rubricatorref22_digit.f (bt a0 x11_2)).bind fun t154 => (if t154 = true then (rubricatorref22_group.l0 k2 a0 a1 l2 x8_2 t146 (decide (x11_2 > 0)) (wrap64 (x11_2 + 1))) else (rubricatorref22_group.l0 k2 a0 a1 l2 x8_2 t146 false (wrap64 (x11_2 + 1)))))))) else (rubricatorref22_group.l0 k2 a0 a1 l2 x8_2 t146 false (wrap64 (x11_2 + 1))))) = some (r1, r2) := H
                have A10 := Aside0.mk A100
                clear A100
                by_cases c11 : t146 = true
                · subst c11
                  have H1 : (if x10_2 = true then (if (bt a0 x11_2) ≥ 97 then (if (bt a0 x11_2) ≤ 122 then (rubricatorref22_group.l0 k2 a0 a1 l2 (wrap64 ((wrap64 (10 * x8_2)) + (((bt a0 x11_2) - 48) % 256))) true true (wrap64 (x11_2 + 1))) else (if (bt a0 x11_2) ≥ 65 then (if (bt a0 x11_2) ≤ 90 then (rubricatorref22_group.l0 k2 a0 a1 l2 (wrap64 ((wrap64 (10 * x8_2)) + (((bt a0 x11_2) - 48) % 256))) true true (wrap64 (x11_2 + 1))) else (if (bt a0 x11_2) = 95 then (rubricatorref22_group.l0 k2 a0 a1 l2 (wrap64 ((wrap64 (10 * x8_2)) + (((bt a0 x11_2) - 48) % 256))) true true (wrap64 (x11_2 + 1))) else ((rubricatorref22_digit.f (bt a0 x11_2)).bind fun t147 => (if t147 = true then (rubricatorref22_group.l0 k2 a0 a1 l2 (wrap64 ((wrap64 (10 * x8_2)) + (((bt a0 x11_2) - 48) % 256))) true (decide (x11_2 > 0)) (wrap64 (x11_2 + 1))) else (rubricatorref22_group.l0 k2 a0 a1 l2 (wrap64 ((wrap64 (10 * x8_2)) + (((bt a0 x11_2) - 48) % 256))) true false (wrap64 (x11_2 + 1))))))) else (if (bt a0 x11_2) = 95 then (rubricatorref22_group.l0 k2 a0 a1 l2 (wrap64 ((wrap64 (10 * x8_2)) + (((bt a0 x11_2) - 48) % 256))) true true (wrap64 (x11_2 + 1))) else ((rubricatorref22_digit.f (bt a0 x11_2)).bind fun t148 => (if t148 = true then (rubricatorref22_group.l0 k2 a0 a1 l2 (wrap64 ((wrap64 (10 * x8_2)) + (((bt a0 x11_2) - 48) % 256))) true (decide (x11_2 > 0)) (wrap64 (x11_2 + 1))) else (rubricatorref22_group.l0 k2 a0 a1 l2 (wrap64 ((wrap64 (10 * x8_2)) + (((bt a0 x11_2) - 48) % 256))) true false (wrap64 (x11_2 + 1)))))))) else (if (bt a0 x11_2) ≥ 65 then (if (bt a0 x11_2) ≤ 90 then (rubricatorref22_group.l0 k2 a0 a1 l2 (wrap64 ((wrap64 (10 * x8_2)) + (((bt a0 x11_2) - 48) % 256))) true true (wrap64 (x11_2 + 1))) else (if (bt a0 x11_2) = 95 then (rubricatorref22_group.l0 k2 a0 a1 l2 (wrap64 ((wrap64 (10 * x8_2)) + (((bt a0 x11_2) - 48) % 256))) true true (wrap64 (x11_2 + 1))) else ((rubricatorref22_digit.f (bt a0 x11_2)).bind fun t149 => (if t149 = true then (rubricatorref22_group.l0 k2 a0 a1 l2 (wrap64 ((wrap64 (10 * x8_2)) + (((bt a0 x11_2) - 48) % 256))) true (decide (x11_2 > 0)) (wrap64 (x11_2 + 1))) else (rubricatorref22_group.l0 k2 a0 a1 l2 (wrap64 ((wrap64 (10 * x8_2)) + (((bt a0 x11_2) - 48) % 256))) true false (wrap64 (x11_2 + 1))))))) else (if (bt a0 x11_2) = 95 then (rubricatorref22_group.l0 k2 a0 a1 l2 (wrap64 ((wrap64 (10 * x8_2)) + (((bt a0 x11_2) - 48) % 256))) true true (wrap64 (x11_2 + 1))) else ((rubricatorref22_digit.f (bt a0 x11_2)).bind fun t150 => (if t150 = true then (rubricatorref22_group.l0 k2 a0 a1 l2 (wrap64 ((wrap64 (10 * x8_2)) + (((bt a0 x11_2) - 48) % 256))) true (decide (x11_2 > 0)) (wrap64 (x11_2 + 1))) else (rubricatorref22_group.l0 k2 a0 a1 l2 (wrap64 ((wrap64 (10 * x8_2)) + (((bt a0 x11_2) - 48) % 256))) true false (wrap64 (x11_2 + 1)))))))) else (rubricatorref22_group.l0 k2 a0 a1 l2 (wrap64 ((wrap64 (10 * x8_2)) + (((bt a0 x11_2) - 48) % 256))) true false (wrap64 (x11_2 + 1)))) = some (r1, r2) := by rw [if_pos rfl] at H; exact H
                  clear H
                  have H := H1
                  clear H1
                  by_cases c12 : x10_2 = true
                  · subst c12
                    have H1 : (if (bt a0 x11_2) ≥ 97 then (if (bt a0 x11_2) ≤ 122 then (rubricatorref22_group.l0 k2 a0 a1 l2 (wrap64 ((wrap64 (10 * x8_2)) + (((bt a0 x11_2) - 48) % 256))) true true (wrap64 (x11_2 + 1))) else (if (bt a0 x11_2) ≥ 65 then (if (bt a0 x11_2) ≤ 90 then (rubricatorref22_group.l0 k2 a0 a1 l2 (wrap64 ((wrap64 (10 * x8_2)) + (((bt a0 x11_2) - 48) % 256))) true true (wrap64 (x11_2 + 1))) else (if (bt a0 x11_2) = 95 then (rubricatorref22_group.l0 k2 a0 a1 l2 (wrap64 ((wrap64 (10 * x8_2)) + (((bt a0 x11_2) - 48) % 256))) true true (wrap64 (x11_2 + 1))) else ((rubricatorref22_digit.f (bt a0 x11_2)).bind fun t147 => (if t147 = true then (rubricatorref22_group.l0 k2 a0 a1 l2 (wrap64 ((wrap64 (10 * x8_2)) + (((bt a0 x11_2) - 48) % 256))) true (decide (x11_2 > 0)) (wrap64 (x11_2 + 1))) else (rubricatorref22_group.l0 k2 a0 a1 l2 (wrap64 ((wrap64 (10 * x8_2)) + (((bt a0 x11_2) - 48) % 256))) true false (wrap64 (x11_2 + 1))))))) else (if (bt a0 x11_2) = 95 then (rubricatorref22_group.l0 k2 a0 a1 l2 (wrap64 ((wrap64 (10 * x8_2)) + (((bt a0 x11_2) - 48) % 256))) true true (wrap64 (x11_2 + 1))) else ((rubricatorref22_digit.f (bt a0 x11_2)).bind fun t148 => (if t148 = true then (rubricatorref22_group.l0 k2 a0 a1 l2 (wrap64 ((wrap64 (10 * x8_2)) + (((bt a0 x11_2) - 48) % 256))) true (decide (x11_2 > 0)) (wrap64 (x11_2 + 1))) else (rubricatorref22_group.l0 k2 a0 a1 l2 (wrap64 ((wrap64 (10 * x8_2)) + (((bt a0 x11_2) - 48) % 256))) true false (wrap64 (x11_2 + 1)))))))) else (if (bt a0 x11_2) ≥ 65 then (if (bt a0 x11_2) ≤ 90 then (rubricatorref22_group.l0 k2 a0 a1 l2 (wrap64 ((wrap64 (10 * x8_2)) + (((bt a0 x11_2) - 48) % 256))) true true (wrap64 (x11_2 + 1))) else (if (bt a0 x11_2) = 95 then (rubricatorref22_group.l0 k2 a0 a1 l2 (wrap64 ((wrap64 (10 * x8_2)) + (((bt a0 x11_2) - 48) % 256))) true true (wrap64 (x11_2 + 1))) else ((rubricatorref22_digit.f (bt a0 x11_2)).bind fun t149 => (if t149 = true then (rubricatorref22_group.l0 k2 a0 a1 l2 (wrap64 ((wrap64 (10 * x8_2)) + (((bt a0 x11_2) - 48) % 256))) true (decide (x11_2 > 0)) (wrap64 (x11_2 + 1))) else (rubricatorref22_group.l0 k2 a0 a1 l2 (wrap64 ((wrap64 (10 * x8_2)) + (((bt a0 x11_2) - 48) % 256))) true false (wrap64 (x11_2 + 1))))))) else (if (bt a0 x11_2) = 95 then (rubricatorref22_group.l0 k2 a0 a1 l2 (wrap64 ((wrap64 (10 * x8_2)) + (((bt a0 x11_2) - 48) % 256))) true true (wrap64 (x11_2 + 1))) else ((rubricatorref22_digit.f (bt a0 x11_2)).bind fun t150 => (if t150 = true then (rubricatorref22_group.l0 k2 a0 a1 l2 (wrap64 ((wrap64 (10 * x8_2)) + (((bt a0 x11_2) - 48) % 256))) true (decide (x11_2 > 0)) (wrap64 (x11_2 + 1))) else (rubricatorref22_group.l0 k2 a0 a1 l2 (wrap64 ((wrap64 (10 * x8_2)) + (((bt a0 x11_2) - 48) % 256))) true false (wrap64 (x11_2 + 1)))))))) = some (r1, r2) := by rw [if_pos rfl] at H; exact H
                    clear H
                    have H := H1
                    clear H1
                    by_cases c13 : (bt a0 x11_2) ≥ 97
                    · rw [if_pos c13] at H
                      have c13b0 : decide (97 ≤ (bt a0 x11_2)) = true := decide_eq_true c13
                      clear c13
                      by_cases c14 : (bt a0 x11_2) ≤ 122
                      · rw [if_pos c14] at H
                        have c14b0 : decide ((bt a0 x11_2) ≤ 122) = true := decide_eq_true c14
                        clear c14
                        have H' := Aside0.mk H
                        clear H
                        have p8 : 0 ≤ (x11_2 : Int) := of_decide_eq_true (by first | (with_reducible assumption) | assumption)
                        have q8 : x11_2 < (a0.size : Int) := of_decide_eq_true (by first | (with_reducible assumption) | assumption)
                        have hx8 := bt_at a0 x11_2
                        replace p8 := eq_true p8
                        replace q8 := eq_true q8
                        go_wp2_with (first | (go_at_call 24; (with_reducible refine (rubricatorref22_digit.calls (bt a0 x11_2) true _ A10.out).mono ?_); rintro e w' ⟨rfl, ⟨nd, rfl⟩⟩))
                        go_roundg k2
                        case measure => have := HJ3.out; have := HK2.out; omega
                        case rel => exact ⟨(wrap64 ((wrap64 (10 * x8_2)) + (((bt a0 x11_2) - 48) % 256))), (true), (true), (wrap64 (x11_2 + 1)), (by first | rfl | (simp; done) | (simp [*]; done)), (by first | rfl | (simp; done) | (simp [*]; done)), (by first | rfl | (simp; done) | (simp [*]; done)), (by first | rfl | (simp; done) | (simp [*]; done)), H', ⟨by have := HJ3.out; have := HK2.out; omega⟩, by repeat (first | exact Drawn0.refl _ | apply Drawn0.step)⟩
                      · rw [if_neg c14] at H
                        have c14b0 : decide ((bt a0 x11_2) ≤ 122) = false := decide_eq_false c14
                        clear c14
                        by_cases c15 : (bt a0 x11_2) ≥ 65
                        · rw [if_pos c15] at H
                          have c15b0 : decide (65 ≤ (bt a0 x11_2)) = true := decide_eq_true c15
                          clear c15
                          by_cases c16 : (bt a0 x11_2) ≤ 90
                          · rw [if_pos c16] at H
                            have c16b0 : decide ((bt a0 x11_2) ≤ 90) = true := decide_eq_true c16
                            clear c16
                            have H' := Aside0.mk H
                            clear H
                            have p8 : 0 ≤ (x11_2 : Int) := of_decide_eq_true (by first | (with_reducible assumption) | assumption)
                            have q8 : x11_2 < (a0.size : Int) := of_decide_eq_true (by first | (with_reducible assumption) | assumption)
                            have hx8 := bt_at a0 x11_2
                            replace p8 := eq_true p8
                            replace q8 := eq_true q8
                            go_wp2_with (first | (go_at_call 24; (with_reducible refine (rubricatorref22_digit.calls (bt a0 x11_2) true _ A10.out).mono ?_); rintro e w' ⟨rfl, ⟨nd, rfl⟩⟩))
                            go_roundg k2
                            case measure => have := HJ3.out; have := HK2.out; omega
                            case rel => exact ⟨(wrap64 ((wrap64 (10 * x8_2)) + (((bt a0 x11_2) - 48) % 256))), (true), (true), (wrap64 (x11_2 + 1)), (by first | rfl | (simp; done) | (simp [*]; done)), (by first | rfl | (simp; done) | (simp [*]; done)), (by first | rfl | (simp; done) | (simp [*]; done)), (by first | rfl | (simp; done) | (simp [*]; done)), H', ⟨by have := HJ3.out; have := HK2.out; omega⟩, by repeat (first | exact Drawn0.refl _ | apply Drawn0.step)⟩
                          · rw [if_neg c16] at H
                            have c16b0 : decide ((bt a0 x11_2) ≤ 90) = false := decide_eq_false c16
                            clear c16
                            by_cases c17 : (bt a0 x11_2) = 95
                            · rw [if_pos c17] at H
                              have c17b0 : ((bt a0 x11_2) == 95) = true := beq_iff_eq.mpr c17
                              have c17b1 : ((bt a0 x11_2) != 95) = false := bne_eq_false_iff_eq.mpr c17
                              clear c17
                              have H' := Aside0.mk H
                              clear H
                              have p8 : 0 ≤ (x11_2 : Int) := of_decide_eq_true (by first | (with_reducible assumption) | assumption)
                              have q8 : x11_2 < (a0.size : Int) := of_decide_eq_true (by first | (with_reducible assumption) | assumption)
                              have hx8 := bt_at a0 x11_2
                              replace p8 := eq_true p8
                              replace q8 := eq_true q8
                              go_wp2_with (first | (go_at_call 24; (with_reducible refine (rubricatorref22_digit.calls (bt a0 x11_2) true _ A10.out).mono ?_); rintro e w' ⟨rfl, ⟨nd, rfl⟩⟩))
                              go_roundg k2
                              case measure => have := HJ3.out; have := HK2.out; omega
                              case rel => exact ⟨(wrap64 ((wrap64 (10 * x8_2)) + (((bt a0 x11_2) - 48) % 256))), (true), (true), (wrap64 (x11_2 + 1)), (by first | rfl | (simp; done) | (simp [*]; done)), (by first | rfl | (simp; done) | (simp [*]; done)), (by first | rfl | (simp; done) | (simp [*]; done)), (by first | rfl | (simp; done) | (simp [*]; done)), H', ⟨by have := HJ3.out; have := HK2.out; omega⟩, by repeat (first | exact Drawn0.refl _ | apply Drawn0.step)⟩
                            · rw [if_neg c17] at H
                              have c17b0 : ((bt a0 x11_2) == 95) = false := beq_eq_false_iff_ne.mpr c17
                              have c17b1 : ((bt a0 x11_2) != 95) = true := bne_iff_ne.mpr c17
                              replace H := Option.bind_eq_some_iff.mp H
                              obtain ⟨t147, A180, H⟩ := H
                              replace H : (if t147 = true then (rubricatorref22_group.l0 k2 a0 a1 l2 (wrap64 ((wrap64 (10 * x8_2)) + (((bt a0 x11_2) - 48) % 256))) true (decide (x11_2 > 0)) (wrap64 (x11_2 + 1))) else (rubricatorref22_group.l0 k2 a0 a1 l2 (wrap64 ((wrap64 (10 * x8_2)) + (((bt a0 x11_2) - 48) % 256))) true false (wrap64 (x11_2 + 1)))) = some (r1, r2) := H
                              have A18 := Aside0.mk A180
                              clear A180
                              by_cases c19 : t147 = true
                              · subst c19
                                have H1 : (rubricatorref22_group.l0 k2 a0 a1 l2 (wrap64 ((wrap64 (10 * x8_2)) + (((bt a0 x11_2) - 48) % 256))) true (decide (x11_2 > 0)) (wrap64 (x11_2 + 1))) = some (r1, r2) := by rw [if_pos rfl] at H; exact H
                                clear H
                                have H := H1
                                clear H1
                                have H' := Aside0.mk H
                                clear H
                                have p8 : 0 ≤ (x11_2 : Int) := of_decide_eq_true (by first | (with_reducible assumption) | assumption)
                                have q8 : x11_2 < (a0.size : Int) := of_decide_eq_true (by first | (with_reducible assumption) | assumption)
                                have hx8 := bt_at a0 x11_2
                                replace p8 := eq_true p8
                                replace q8 := eq_true q8
                                go_wp2_with (first | (go_at_call 24; (with_reducible refine (rubricatorref22_digit.calls (bt a0 x11_2) true _ A10.out).mono ?_); rintro e w' ⟨rfl, ⟨nd, rfl⟩⟩) | (go_at_call 24; (with_reducible refine (rubricatorref22_digit.calls (bt a0 x11_2) true _ A18.out).mono ?_); rintro e w' ⟨rfl, ⟨nd, rfl⟩⟩))
                                go_roundg k2
                                case measure => have := HJ3.out; have := HK2.out; omega
                                case rel => exact ⟨(wrap64 ((wrap64 (10 * x8_2)) + (((bt a0 x11_2) - 48) % 256))), (true), (decide (x11_2 > 0)), (wrap64 (x11_2 + 1)), (by first | rfl | (simp; done) | (simp [*]; done)), (by first | rfl | (simp; done) | (simp [*]; done)), (by first | rfl | (simp; done) | (simp [*]; done)), (by first | rfl | (simp; done) | (simp [*]; done)), H', ⟨by have := HJ3.out; have := HK2.out; omega⟩, by repeat (first | exact Drawn0.refl _ | apply Drawn0.step)⟩
                              · replace c19 := Bool.eq_false_iff.mpr c19
                                subst c19
                                have H1 : (rubricatorref22_group.l0 k2 a0 a1 l2 (wrap64 ((wrap64 (10 * x8_2)) + (((bt a0 x11_2) - 48) % 256))) true false (wrap64 (x11_2 + 1))) = some (r1, r2) := by rw [if_neg (show ¬ (false = true) by decide)] at H; exact H
                                clear H
                                have H := H1
                                clear H1
                                have H' := Aside0.mk H
                                clear H
                                have p8 : 0 ≤ (x11_2 : Int) := of_decide_eq_true (by first | (with_reducible assumption) | assumption)
                                have q8 : x11_2 < (a0.size : Int) := of_decide_eq_true (by first | (with_reducible assumption) | assumption)
                                have hx8 := bt_at a0 x11_2
                                replace p8 := eq_true p8
                                replace q8 := eq_true q8
                                exact absurd (A10.out.symm.trans A18.out) (by simp)
                        · rw [if_neg c15] at H
                          have c15b0 : decide (65 ≤ (bt a0 x11_2)) = false := decide_eq_false c15
                          clear c15
                          by_cases c20 : (bt a0 x11_2) = 95
                          · rw [if_pos c20] at H
                            have c20b0 : ((bt a0 x11_2) == 95) = true := beq_iff_eq.mpr c20
                            have c20b1 : ((bt a0 x11_2) != 95) = false := bne_eq_false_iff_eq.mpr c20
                            clear c20
                            have H' := Aside0.mk H
                            clear H
                            have p8 : 0 ≤ (x11_2 : Int) := of_decide_eq_true (by first | (with_reducible assumption) | assumption)
                            have q8 : x11_2 < (a0.size : Int) := of_decide_eq_true (by first | (with_reducible assumption) | assumption)
                            have hx8 := bt_at a0 x11_2
                            replace p8 := eq_true p8
                            replace q8 := eq_true q8
                            go_wp2_with (first | (go_at_call 24; (with_reducible refine (rubricatorref22_digit.calls (bt a0 x11_2) true _ A10.out).mono ?_); rintro e w' ⟨rfl, ⟨nd, rfl⟩⟩))
                            go_roundg k2
                            case measure => have := HJ3.out; have := HK2.out; omega
                            case rel => exact ⟨(wrap64 ((wrap64 (10 * x8_2)) + (((bt a0 x11_2) - 48) % 256))), (true), (true), (wrap64 (x11_2 + 1)), (by first | rfl | (simp; done) | (simp [*]; done)), (by first | rfl | (simp; done) | (simp [*]; done)), (by first | rfl | (simp; done) | (simp [*]; done)), (by first | rfl | (simp; done) | (simp [*]; done)), H', ⟨by have := HJ3.out; have := HK2.out; omega⟩, by repeat (first | exact Drawn0.refl _ | apply Drawn0.step)⟩
                          · rw [if_neg c20] at H
                            have c20b0 : ((bt a0 x11_2) == 95) = false := beq_eq_false_iff_ne.mpr c20
                            have c20b1 : ((bt a0 x11_2) != 95) = true := bne_iff_ne.mpr c20
                            replace H := Option.bind_eq_some_iff.mp H
                            obtain ⟨t148, A210, H⟩ := H
                            replace H : (if t148 = true then (rubricatorref22_group.l0 k2 a0 a1 l2 (wrap64 ((wrap64 (10 * x8_2)) + (((bt a0 x11_2) - 48) % 256))) true (decide (x11_2 > 0)) (wrap64 (x11_2 + 1))) else (rubricatorref22_group.l0 k2 a0 a1 l2 (wrap64 ((wrap64 (10 * x8_2)) + (((bt a0 x11_2) - 48) % 256))) true false (wrap64 (x11_2 + 1)))) = some (r1, r2) := H
                            have A21 := Aside0.mk A210
                            clear A210
                            by_cases c22 : t148 = true
                            · subst c22
                              have H1 : (rubricatorref22_group.l0 k2 a0 a1 l2 (wrap64 ((wrap64 (10 * x8_2)) + (((bt a0 x11_2) - 48) % 256))) true (decide (x11_2 > 0)) (wrap64 (x11_2 + 1))) = some (r1, r2) := by rw [if_pos rfl] at H; exact H
                              clear H
                              have H := H1
                              clear H1
                              have H' := Aside0.mk H
                              clear H
                              have p8 : 0 ≤ (x11_2 : Int) := of_decide_eq_true (by first | (with_reducible assumption) | assumption)
                              have q8 : x11_2 < (a0.size : Int) := of_decide_eq_true (by first | (with_reducible assumption) | assumption)
                              have hx8 := bt_at a0 x11_2
                              replace p8 := eq_true p8
                              replace q8 := eq_true q8
                              go_wp2_with (first | (go_at_call 24; (with_reducible refine (rubricatorref22_digit.calls (bt a0 x11_2) true _ A10.out).mono ?_); rintro e w' ⟨rfl, ⟨nd, rfl⟩⟩) | (go_at_call 24; (with_reducible refine (rubricatorref22_digit.calls (bt a0 x11_2) true _ A21.out).mono ?_); rintro e w' ⟨rfl, ⟨nd, rfl⟩⟩))
                              go_roundg k2
                              case measure => have := HJ3.out; have := HK2.out; omega
                              case rel => exact ⟨(wrap64 ((wrap64 (10 * x8_2)) + (((bt a0 x11_2) - 48) % 256))), (true), (decide (x11_2 > 0)), (wrap64 (x11_2 + 1)), (by first | rfl | (simp; done) | (simp [*]; done)), (by first | rfl | (simp; done) | (simp [*]; done)), (by first | rfl | (simp; done) | (simp [*]; done)), (by first | rfl | (simp; done) | (simp [*]; done)), H', ⟨by have := HJ3.out; have := HK2.out; omega⟩, by repeat (first | exact Drawn0.refl _ | apply Drawn0.step)⟩
                            · replace c22 := Bool.eq_false_iff.mpr c22
                              subst c22
                              have H1 : (rubricatorref22_group.l0 k2 a0 a1 l2 (wrap64 ((wrap64 (10 * x8_2)) + (((bt a0 x11_2) - 48) % 256))) true false (wrap64 (x11_2 + 1))) = some (r1, r2) := by rw [if_neg (show ¬ (false = true) by decide)] at H; exact H
                              clear H
                              have H := H1
                              clear H1
                              have H' := Aside0.mk H
                              clear H
                              have p8 : 0 ≤ (x11_2 : Int) := of_decide_eq_true (by first | (with_reducible assumption) | assumption)
                              have q8 : x11_2 < (a0.size : Int) := of_decide_eq_true (by first | (with_reducible assumption) | assumption)
                              have hx8 := bt_at a0 x11_2
                              replace p8 := eq_true p8
                              replace q8 := eq_true q8
                              exact absurd (A10.out.symm.trans A21.out) (by simp)
                    · rw [if_neg c13] at H
                      have c13b0 : decide (97 ≤ (bt a0 x11_2)) = false := decide_eq_false c13
                      clear c13
                      by_cases c23 : (bt a0 x11_2) ≥ 65
                      · rw [if_pos c23] at H
                        have c23b0 : decide (65 ≤ (bt a0 x11_2)) = true := decide_eq_true c23
                        clear c23
                        by_cases c24 : (bt a0 x11_2) ≤ 90
                        · rw [if_pos c24] at H
                          have c24b0 : decide ((bt a0 x11_2) ≤ 90) = true := decide_eq_true c24
                          clear c24
                          have H' := Aside0.mk H
                          clear H
                          have p8 : 0 ≤ (x11_2 : Int) := of_decide_eq_true (by first | (with_reducible assumption) | assumption)
                          have q8 : x11_2 < (a0.size : Int) := of_decide_eq_true (by first | (with_reducible assumption) | assumption)
                          have hx8 := bt_at a0 x11_2
                          replace p8 := eq_true p8
                          replace q8 := eq_true q8
                          go_wp2_with (first | (go_at_call 24; (with_reducible refine (rubricatorref22_digit.calls (bt a0 x11_2) true _ A10.out).mono ?_); rintro e w' ⟨rfl, ⟨nd, rfl⟩⟩))
                          go_roundg k2
                          case measure => have := HJ3.out; have := HK2.out; omega
                          case rel => exact ⟨(wrap64 ((wrap64 (10 * x8_2)) + (((bt a0 x11_2) - 48) % 256))), (true), (true), (wrap64 (x11_2 + 1)), (by first | rfl | (simp; done) | (simp [*]; done)), (by first | rfl | (simp; done) | (simp [*]; done)), (by first | rfl | (simp; done) | (simp [*]; done)), (by first | rfl | (simp; done) | (simp [*]; done)), H', ⟨by have := HJ3.out; have := HK2.out; omega⟩, by repeat (first | exact Drawn0.refl _ | apply Drawn0.step)⟩
                        · rw [if_neg c24] at H
                          have c24b0 : decide ((bt a0 x11_2) ≤ 90) = false := decide_eq_false c24
                          clear c24
                          by_cases c25 : (bt a0 x11_2) = 95
                          · rw [if_pos c25] at H
                            have c25b0 : ((bt a0 x11_2) == 95) = true := beq_iff_eq.mpr c25
                            have c25b1 : ((bt a0 x11_2) != 95) = false := bne_eq_false_iff_eq.mpr c25
                            clear c25
                            have H' := Aside0.mk H
                            clear H
                            have p8 : 0 ≤ (x11_2 : Int) := of_decide_eq_true (by first | (with_reducible assumption) | assumption)
                            have q8 : x11_2 < (a0.size : Int) := of_decide_eq_true (by first | (with_reducible assumption) | assumption)
                            have hx8 := bt_at a0 x11_2
                            replace p8 := eq_true p8
                            replace q8 := eq_true q8
                            go_wp2_with (first | (go_at_call 24; (with_reducible refine (rubricatorref22_digit.calls (bt a0 x11_2) true _ A10.out).mono ?_); rintro e w' ⟨rfl, ⟨nd, rfl⟩⟩))
                            go_roundg k2
                            case measure => have := HJ3.out; have := HK2.out; omega
                            case rel => exact ⟨(wrap64 ((wrap64 (10 * x8_2)) + (((bt a0 x11_2) - 48) % 256))), (true), (true), (wrap64 (x11_2 + 1)), (by first | rfl | (simp; done) | (simp [*]; done)), (by first | rfl | (simp; done) | (simp [*]; done)), (by first | rfl | (simp; done) | (simp [*]; done)), (by first | rfl | (simp; done) | (simp [*]; done)), H', ⟨by have := HJ3.out; have := HK2.out; omega⟩, by repeat (first | exact Drawn0.refl _ | apply Drawn0.step)⟩
                          · rw [if_neg c25] at H
                            have c25b0 : ((bt a0 x11_2) == 95) = false := beq_eq_false_iff_ne.mpr c25
                            have c25b1 : ((bt a0 x11_2) != 95) = true := bne_iff_ne.mpr c25
                            replace H := Option.bind_eq_some_iff.mp H
                            obtain ⟨t149, A260, H⟩ := H
                            replace H : (if t149 = true then (rubricatorref22_group.l0 k2 a0 a1 l2 (wrap64 ((wrap64 (10 * x8_2)) + (((bt a0 x11_2) - 48) % 256))) true (decide (x11_2 > 0)) (wrap64 (x11_2 + 1))) else (rubricatorref22_group.l0 k2 a0 a1 l2 (wrap64 ((wrap64 (10 * x8_2)) + (((bt a0 x11_2) - 48) % 256))) true false (wrap64 (x11_2 + 1)))) = some (r1, r2) := H
                            have A26 := Aside0.mk A260
                            clear A260
                            by_cases c27 : t149 = true
                            · subst c27
                              have H1 : (rubricatorref22_group.l0 k2 a0 a1 l2 (wrap64 ((wrap64 (10 * x8_2)) + (((bt a0 x11_2) - 48) % 256))) true (decide (x11_2 > 0)) (wrap64 (x11_2 + 1))) = some (r1, r2) := by rw [if_pos rfl] at H; exact H
                              clear H
                              have H := H1
                              clear H1
                              have H' := Aside0.mk H
                              clear H
                              have p8 : 0 ≤ (x11_2 : Int) := of_decide_eq_true (by first | (with_reducible assumption) | assumption)
                              have q8 : x11_2 < (a0.size : Int) := of_decide_eq_true (by first | (with_reducible assumption) | assumption)
                              have hx8 := bt_at a0 x11_2
                              replace p8 := eq_true p8
                              replace q8 := eq_true q8
                              go_wp2_with (first | (go_at_call 24; (with_reducible refine (rubricatorref22_digit.calls (bt a0 x11_2) true _ A10.out).mono ?_); rintro e w' ⟨rfl, ⟨nd, rfl⟩⟩) | (go_at_call 24; (with_reducible refine (rubricatorref22_digit.calls (bt a0 x11_2) true _ A26.out).mono ?_); rintro e w' ⟨rfl, ⟨nd, rfl⟩⟩))
                              go_roundg k2
                              case measure => have := HJ3.out; have := HK2.out; omega
                              case rel => exact ⟨(wrap64 ((wrap64 (10 * x8_2)) + (((bt a0 x11_2) - 48) % 256))), (true), (decide (x11_2 > 0)), (wrap64 (x11_2 + 1)), (by first | rfl | (simp; done) | (simp [*]; done)), (by first | rfl | (simp; done) | (simp [*]; done)), (by first | rfl | (simp; done) | (simp [*]; done)), (by first | rfl | (simp; done) | (simp [*]; done)), H', ⟨by have := HJ3.out; have := HK2.out; omega⟩, by repeat (first | exact Drawn0.refl _ | apply Drawn0.step)⟩
                            · replace c27 := Bool.eq_false_iff.mpr c27
                              subst c27
                              have H1 : (rubricatorref22_group.l0 k2 a0 a1 l2 (wrap64 ((wrap64 (10 * x8_2)) + (((bt a0 x11_2) - 48) % 256))) true false (wrap64 (x11_2 + 1))) = some (r1, r2) := by rw [if_neg (show ¬ (false = true) by decide)] at H; exact H
                              clear H
                              have H := H1
                              clear H1
                              have H' := Aside0.mk H
                              clear H
                              have p8 : 0 ≤ (x11_2 : Int) := of_decide_eq_true (by first | (with_reducible assumption) | assumption)
                              have q8 : x11_2 < (a0.size : Int) := of_decide_eq_true (by first | (with_reducible assumption) | assumption)
                              have hx8 := bt_at a0 x11_2
                              replace p8 := eq_true p8
                              replace q8 := eq_true q8
                              exact absurd (A10.out.symm.trans A26.out) (by simp)
                      · rw [if_neg c23] at H
                        have c23b0 : decide (65 ≤ (bt a0 x11_2)) = false := decide_eq_false c23
                        clear c23
                        by_cases c28 : (bt a0 x11_2) = 95
                        · rw [if_pos c28] at H
                          have c28b0 : ((bt a0 x11_2) == 95) = true := beq_iff_eq.mpr c28
                          have c28b1 : ((bt a0 x11_2) != 95) = false := bne_eq_false_iff_eq.mpr c28
                          clear c28
                          have H' := Aside0.mk H
                          clear H
                          have p8 : 0 ≤ (x11_2 : Int) := of_decide_eq_true (by first | (with_reducible assumption) | assumption)
                          have q8 : x11_2 < (a0.size : Int) := of_decide_eq_true (by first | (with_reducible assumption) | assumption)
                          have hx8 := bt_at a0 x11_2
                          replace p8 := eq_true p8
                          replace q8 := eq_true q8
                          go_wp2_with (first | (go_at_call 24; (with_reducible refine (rubricatorref22_digit.calls (bt a0 x11_2) true _ A10.out).mono ?_); rintro e w' ⟨rfl, ⟨nd, rfl⟩⟩))
                          go_roundg k2
                          case measure => have := HJ3.out; have := HK2.out; omega
                          case rel => exact ⟨(wrap64 ((wrap64 (10 * x8_2)) + (((bt a0 x11_2) - 48) % 256))), (true), (true), (wrap64 (x11_2 + 1)), (by first | rfl | (simp; done) | (simp [*]; done)), (by first | rfl | (simp; done) | (simp [*]; done)), (by first | rfl | (simp; done) | (simp [*]; done)), (by first | rfl | (simp; done) | (simp [*]; done)), H', ⟨by have := HJ3.out; have := HK2.out; omega⟩, by repeat (first | exact Drawn0.refl _ | apply Drawn0.step)⟩
                        · rw [if_neg c28] at H
                          have c28b0 : ((bt a0 x11_2) == 95) = false := beq_eq_false_iff_ne.mpr c28
                          have c28b1 : ((bt a0 x11_2) != 95) = true := bne_iff_ne.mpr c28
                          replace H := Option.bind_eq_some_iff.mp H
                          obtain ⟨t150, A290, H⟩ := H
                          replace H : (if t150 = true then (rubricatorref22_group.l0 k2 a0 a1 l2 (wrap64 ((wrap64 (10 * x8_2)) + (((bt a0 x11_2) - 48) % 256))) true (decide (x11_2 > 0)) (wrap64 (x11_2 + 1))) else (rubricatorref22_group.l0 k2 a0 a1 l2 (wrap64 ((wrap64 (10 * x8_2)) + (((bt a0 x11_2) - 48) % 256))) true false (wrap64 (x11_2 + 1)))) = some (r1, r2) := H
                          have A29 := Aside0.mk A290
                          clear A290
                          by_cases c30 : t150 = true
                          · subst c30
                            have H1 : (rubricatorref22_group.l0 k2 a0 a1 l2 (wrap64 ((wrap64 (10 * x8_2)) + (((bt a0 x11_2) - 48) % 256))) true (decide (x11_2 > 0)) (wrap64 (x11_2 + 1))) = some (r1, r2) := by rw [if_pos rfl] at H; exact H
                            clear H
                            have H := H1
                            clear H1
                            have H' := Aside0.mk H
                            clear H
                            have p8 : 0 ≤ (x11_2 : Int) := of_decide_eq_true (by first | (with_reducible assumption) | assumption)
                            have q8 : x11_2 < (a0.size : Int) := of_decide_eq_true (by first | (with_reducible assumption) | assumption)
                            have hx8 := bt_at a0 x11_2
                            replace p8 := eq_true p8
                            replace q8 := eq_true q8
                            go_wp2_with (first | (go_at_call 24; (with_reducible refine (rubricatorref22_digit.calls (bt a0 x11_2) true _ A10.out).mono ?_); rintro e w' ⟨rfl, ⟨nd, rfl⟩⟩) | (go_at_call 24; (with_reducible refine (rubricatorref22_digit.calls (bt a0 x11_2) true _ A29.out).mono ?_); rintro e w' ⟨rfl, ⟨nd, rfl⟩⟩))
                            go_roundg k2
                            case measure => have := HJ3.out; have := HK2.out; omega
                            case rel => exact ⟨(wrap64 ((wrap64 (10 * x8_2)) + (((bt a0 x11_2) - 48) % 256))), (true), (decide (x11_2 > 0)), (wrap64 (x11_2 + 1)), (by first | rfl | (simp; done) | (simp [*]; done)), (by first | rfl | (simp; done) | (simp [*]; done)), (by first | rfl | (simp; done) | (simp [*]; done)), (by first | rfl | (simp; done) | (simp [*]; done)), H', ⟨by have := HJ3.out; have := HK2.out; omega⟩, by repeat (first | exact Drawn0.refl _ | apply Drawn0.step)⟩
                          · replace c30 := Bool.eq_false_iff.mpr c30
                            subst c30
                            have H1 : (rubricatorref22_group.l0 k2 a0 a1 l2 (wrap64 ((wrap64 (10 * x8_2)) + (((bt a0 x11_2) - 48) % 256))) true false (wrap64 (x11_2 + 1))) = some (r1, r2) := by rw [if_neg (show ¬ (false = true) by decide)] at H; exact H
                            clear H
                            have H := H1
                            clear H1
                            have H' := Aside0.mk H
                            clear H
                            have p8 : 0 ≤ (x11_2 : Int) := of_decide_eq_true (by first | (with_reducible assumption) | assumption)
                            have q8 : x11_2 < (a0.size : Int) := of_decide_eq_true (by first | (with_reducible assumption) | assumption)
                            have hx8 := bt_at a0 x11_2
                            replace p8 := eq_true p8
                            replace q8 := eq_true q8
                            exact absurd (A10.out.symm.trans A29.out) (by simp)
                  · replace c12 := Bool.eq_false_iff.mpr c12
                    subst c12
                    have H1 : (rubricatorref22_group.l0 k2 a0 a1 l2 (wrap64 ((wrap64 (10 * x8_2)) + (((bt a0 x11_2) - 48) % 256))) true false (wrap64 (x11_2 + 1))) = some (r1, r2) := by rw [if_neg (show ¬ (false = true) by decide)] at H; exact H
                    clear H
                    have H := H1
                    clear H1
                    have H' := Aside0.mk H
                    clear H
                    have p8 : 0 ≤ (x11_2 : Int) := of_decide_eq_true (by first | (with_reducible assumption) | assumption)
                    have q8 : x11_2 < (a0.size : Int) := of_decide_eq_true (by first | (with_reducible assumption) | assumption)
                    have hx8 := bt_at a0 x11_2
                    replace p8 := eq_true p8
                    replace q8 := eq_true q8
                    go_wp2_with (first | (go_at_call 24; (with_reducible refine (rubricatorref22_digit.calls (bt a0 x11_2) true _ A10.out).mono ?_); rintro e w' ⟨rfl, ⟨nd, rfl⟩⟩))
                    go_roundg k2
                    case measure => have := HJ3.out; have := HK2.out; omega
                    case rel => exact ⟨(wrap64 ((wrap64 (10 * x8_2)) + (((bt a0 x11_2) - 48) % 256))), (true), (false), (wrap64 (x11_2 + 1)), (by first | rfl | (simp; done) | (simp [*]; done)), (by first | rfl | (simp; done) | (simp [*]; done)), (by first | rfl | (simp; done) | (simp [*]; done)), (by first | rfl | (simp; done) | (simp [*]; done)), H', ⟨by have := HJ3.out; have := HK2.out; omega⟩, by repeat (first | exact Drawn0.refl _ | apply Drawn0.step)⟩
                · replace c11 := Bool.eq_false_iff.mpr c11
                  subst c11
                  have H1 : (if x10_2 = true then (if (bt a0 x11_2) ≥ 97 then (if (bt a0 x11_2) ≤ 122 then (rubricatorref22_group.l0 k2 a0 a1 l2 x8_2 false true (wrap64 (x11_2 + 1))) else (if (bt a0 x11_2) ≥ 65 then (if (bt a0 x11_2) ≤ 90 then (rubricatorref22_group.l0 k2 a0 a1 l2 x8_2 false true (wrap64 (x11_2 + 1))) else (if (bt a0 x11_2) = 95 then (rubricatorref22_group.l0 k2 a0 a1 l2 x8_2 false true (wrap64 (x11_2 + 1))) else ((rubricatorref22_digit.f (bt a0 x11_2)).bind fun t151 => (if t151 = true then (rubricatorref22_group.l0 k2 a0 a1 l2 x8_2 false (decide (x11_2 > 0)) (wrap64 (x11_2 + 1))) else (rubricatorref22_group.l0 k2 a0 a1 l2 x8_2 false false (wrap64 (x11_2 + 1))))))) else (if (bt a0 x11_2) = 95 then (rubricatorref22_group.l0 k2 a0 a1 l2 x8_2 false true (wrap64 (x11_2 + 1))) else ((rubricatorref22_digit.f (bt a0 x11_2)).bind fun t152 => (if t152 = true then (rubricatorref22_group.l0 k2 a0 a1 l2 x8_2 false (decide (x11_2 > 0)) (wrap64 (x11_2 + 1))) else (rubricatorref22_group.l0 k2 a0 a1 l2 x8_2 false false (wrap64 (x11_2 + 1)))))))) else (if (bt a0 x11_2) ≥ 65 then (if (bt a0 x11_2) ≤ 90 then (rubricatorref22_group.l0 k2 a0 a1 l2 x8_2 false true (wrap64 (x11_2 + 1))) else (if (bt a0 x11_2) = 95 then (rubricatorref22_group.l0 k2 a0 a1 l2 x8_2 false true (wrap64 (x11_2 + 1))) else ((rubricatorref22_digit.f (bt a0 x11_2)).bind fun t153 => (if t153 = true then (rubricatorref22_group.l0 k2 a0 a1 l2 x8_2 false (decide (x11_2 > 0)) (wrap64 (x11_2 + 1))) else (rubricatorref22_group.l0 k2 a0 a1 l2 x8_2 false false (wrap64 (x11_2 + 1))))))) else (if (bt a0 x11_2) = 95 then (rubricatorref22_group.l0 k2 a0 a1 l2 x8_2 false true (wrap64 (x11_2 + 1))) else ((rubricatorref22_digit.f (bt a0 x11_2)).bind fun t154 => (if t154 = true then (rubricatorref22_group.l0 k2 a0 a1 l2 x8_2 false (decide (x11_2 > 0)) (wrap64 (x11_2 + 1))) else (rubricatorref22_group.l0 k2 a0 a1 l2 x8_2 false false (wrap64 (x11_2 + 1)))))))) else (rubricatorref22_group.l0 k2 a0 a1 l2 x8_2 false false (wrap64 (x11_2 + 1)))) = some (r1, r2) := by rw [if_neg (show ¬ (false = true) by decide)] at H; exact H
                  clear H
                  have H := H1
                  clear H1
                  by_cases c31 : x10_2 = true
                  · subst c31
                    have H1 : (if (bt a0 x11_2) ≥ 97 then (if (bt a0 x11_2) ≤ 122 then (rubricatorref22_group.l0 k2 a0 a1 l2 x8_2 false true (wrap64 (x11_2 + 1))) else (if (bt a0 x11_2) ≥ 65 then (if (bt a0 x11_2) ≤ 90 then (rubricatorref22_group.l0 k2 a0 a1 l2 x8_2 false true (wrap64 (x11_2 + 1))) else (if (bt a0 x11_2) = 95 then (rubricatorref22_group.l0 k2 a0 a1 l2 x8_2 false true (wrap64 (x11_2 + 1))) else ((rubricatorref22_digit.f (bt a0 x11_2)).bind fun t151 => (if t151 = true then (rubricatorref22_group.l0 k2 a0 a1 l2 x8_2 false (decide (x11_2 > 0)) (wrap64 (x11_2 + 1))) else (rubricatorref22_group.l0 k2 a0 a1 l2 x8_2 false false (wrap64 (x11_2 + 1))))))) else (if (bt a0 x11_2) = 95 then (rubricatorref22_group.l0 k2 a0 a1 l2 x8_2 false true (wrap64 (x11_2 + 1))) else ((rubricatorref22_digit.f (bt a0 x11_2)).bind fun t152 => (if t152 = true then (rubricatorref22_group.l0 k2 a0 a1 l2 x8_2 false (decide (x11_2 > 0)) (wrap64 (x11_2 + 1))) else (rubricatorref22_group.l0 k2 a0 a1 l2 x8_2 false false (wrap64 (x11_2 + 1)))))))) else (if (bt a0 x11_2) ≥ 65 then (if (bt a0 x11_2) ≤ 90 then (rubricatorref22_group.l0 k2 a0 a1 l2 x8_2 false true (wrap64 (x11_2 + 1))) else (if (bt a0 x11_2) = 95 then (rubricatorref22_group.l0 k2 a0 a1 l2 x8_2 false true (wrap64 (x11_2 + 1))) else ((rubricatorref22_digit.f (bt a0 x11_2)).bind fun t153 => (if t153 = true then (rubricatorref22_group.l0 k2 a0 a1 l2 x8_2 false (decide (x11_2 > 0)) (wrap64 (x11_2 + 1))) else (rubricatorref22_group.l0 k2 a0 a1 l2 x8_2 false false (wrap64 (x11_2 + 1))))))) else (if (bt a0 x11_2) = 95 then (rubricatorref22_group.l0 k2 a0 a1 l2 x8_2 false true (wrap64 (x11_2 + 1))) else ((rubricatorref22_digit.f (bt a0 x11_2)).bind fun t154 => (if t154 = true then (rubricatorref22_group.l0 k2 a0 a1 l2 x8_2 false (decide (x11_2 > 0)) (wrap64 (x11_2 + 1))) else (rubricatorref22_group.l0 k2 a0 a1 l2 x8_2 false false (wrap64 (x11_2 + 1)))))))) = some (r1, r2) := by rw [if_pos rfl] at H; exact H
                    clear H
                    have H := H1
                    clear H1
                    by_cases c32 : (bt a0 x11_2) ≥ 97
                    · rw [if_pos c32] at H
                      have c32b0 : decide (97 ≤ (bt a0 x11_2)) = true := decide_eq_true c32
                      clear c32
                      by_cases c33 : (bt a0 x11_2) ≤ 122
                      · rw [if_pos c33] at H
                        have c33b0 : decide ((bt a0 x11_2) ≤ 122) = true := decide_eq_true c33
                        clear c33
                        have H' := Aside0.mk H
                        clear H
                        have p8 : 0 ≤ (x11_2 : Int) := of_decide_eq_true (by first | (with_reducible assumption) | assumption)
                        have q8 : x11_2 < (a0.size : Int) := of_decide_eq_true (by first | (with_reducible assumption) | assumption)
                        have hx8 := bt_at a0 x11_2
                        replace p8 := eq_true p8
                        replace q8 := eq_true q8
                        go_wp2_with (first | (go_at_call 24; (with_reducible refine (rubricatorref22_digit.calls (bt a0 x11_2) false _ A10.out).mono ?_); rintro e w' ⟨rfl, ⟨nd, rfl⟩⟩))
                        go_roundg k2
                        case measure => have := HJ3.out; have := HK2.out; omega
                        case rel => exact ⟨(x8_2), (false), (true), (wrap64 (x11_2 + 1)), (by first | rfl | (simp; done) | (simp [*]; done)), (by first | rfl | (simp; done) | (simp [*]; done)), (by first | rfl | (simp; done) | (simp [*]; done)), (by first | rfl | (simp; done) | (simp [*]; done)), H', ⟨by have := HJ3.out; have := HK2.out; omega⟩, by repeat (first | exact Drawn0.refl _ | apply Drawn0.step)⟩
                      · rw [if_neg c33] at H
                        have c33b0 : decide ((bt a0 x11_2) ≤ 122) = false := decide_eq_false c33
                        clear c33
                        by_cases c34 : (bt a0 x11_2) ≥ 65
                        · rw [if_pos c34] at H
                          have c34b0 : decide (65 ≤ (bt a0 x11_2)) = true := decide_eq_true c34
                          clear c34
                          by_cases c35 : (bt a0 x11_2) ≤ 90
                          · rw [if_pos c35] at H
                            have c35b0 : decide ((bt a0 x11_2) ≤ 90) = true := decide_eq_true c35
                            clear c35
                            have H' := Aside0.mk H
                            clear H
                            have p8 : 0 ≤ (x11_2 : Int) := of_decide_eq_true (by first | (with_reducible assumption) | assumption)
                            have q8 : x11_2 < (a0.size : Int) := of_decide_eq_true (by first | (with_reducible assumption) | assumption)
                            have hx8 := bt_at a0 x11_2
                            replace p8 := eq_true p8
                            replace q8 := eq_true q8
                            go_wp2_with (first | (go_at_call 24; (with_reducible refine (rubricatorref22_digit.calls (bt a0 x11_2) false _ A10.out).mono ?_); rintro e w' ⟨rfl, ⟨nd, rfl⟩⟩))
                            go_roundg k2
                            case measure => have := HJ3.out; have := HK2.out; omega
                            case rel => exact ⟨(x8_2), (false), (true), (wrap64 (x11_2 + 1)), (by first | rfl | (simp; done) | (simp [*]; done)), (by first | rfl | (simp; done) | (simp [*]; done)), (by first | rfl | (simp; done) | (simp [*]; done)), (by first | rfl | (simp; done) | (simp [*]; done)), H', ⟨by have := HJ3.out; have := HK2.out; omega⟩, by repeat (first | exact Drawn0.refl _ | apply Drawn0.step)⟩
                          · rw [if_neg c35] at H
                            have c35b0 : decide ((bt a0 x11_2) ≤ 90) = false := decide_eq_false c35
                            clear c35
                            by_cases c36 : (bt a0 x11_2) = 95
                            · rw [if_pos c36] at H
                              have c36b0 : ((bt a0 x11_2) == 95) = true := beq_iff_eq.mpr c36
                              have c36b1 : ((bt a0 x11_2) != 95) = false := bne_eq_false_iff_eq.mpr c36
                              clear c36
                              have H' := Aside0.mk H
                              clear H
                              have p8 : 0 ≤ (x11_2 : Int) := of_decide_eq_true (by first | (with_reducible assumption) | assumption)
                              have q8 : x11_2 < (a0.size : Int) := of_decide_eq_true (by first | (with_reducible assumption) | assumption)
                              have hx8 := bt_at a0 x11_2
                              replace p8 := eq_true p8
                              replace q8 := eq_true q8
                              go_wp2_with (first | (go_at_call 24; (with_reducible refine (rubricatorref22_digit.calls (bt a0 x11_2) false _ A10.out).mono ?_); rintro e w' ⟨rfl, ⟨nd, rfl⟩⟩))
                              go_roundg k2
                              case measure => have := HJ3.out; have := HK2.out; omega
                              case rel => exact ⟨(x8_2), (false), (true), (wrap64 (x11_2 + 1)), (by first | rfl | (simp; done) | (simp [*]; done)), (by first | rfl | (simp; done) | (simp [*]; done)), (by first | rfl | (simp; done) | (simp [*]; done)), (by first | rfl | (simp; done) | (simp [*]; done)), H', ⟨by have := HJ3.out; have := HK2.out; omega⟩, by repeat (first | exact Drawn0.refl _ | apply Drawn0.step)⟩
                            · rw [if_neg c36] at H
                              have c36b0 : ((bt a0 x11_2) == 95) = false := beq_eq_false_iff_ne.mpr c36
                              have c36b1 : ((bt a0 x11_2) != 95) = true := bne_iff_ne.mpr c36
                              replace H := Option.bind_eq_some_iff.mp H
                              obtain ⟨t151, A370, H⟩ := H
                              replace H : (if t151 = true then (rubricatorref22_group.l0 k2 a0 a1 l2 x8_2 false (decide (x11_2 > 0)) (wrap64 (x11_2 + 1))) else (rubricatorref22_group.l0 k2 a0 a1 l2 x8_2 false false (wrap64 (x11_2 + 1)))) = some (r1, r2) := H
                              have A37 := Aside0.mk A370
                              clear A370
                              by_cases c38 : t151 = true
                              · subst c38
                                have H1 : (rubricatorref22_group.l0 k2 a0 a1 l2 x8_2 false (decide (x11_2 > 0)) (wrap64 (x11_2 + 1))) = some (r1, r2) := by rw [if_pos rfl] at H; exact H
                                clear H
                                have H := H1
                                clear H1
                                have H' := Aside0.mk H
                                clear H
                                have p8 : 0 ≤ (x11_2 : Int) := of_decide_eq_true (by first | (with_reducible assumption) | assumption)
                                have q8 : x11_2 < (a0.size : Int) := of_decide_eq_true (by first | (with_reducible assumption) | assumption)
                                have hx8 := bt_at a0 x11_2
                                replace p8 := eq_true p8
                                replace q8 := eq_true q8
                                exact absurd (A10.out.symm.trans A37.out) (by simp)
                              · replace c38 := Bool.eq_false_iff.mpr c38
                                subst c38
                                have H1 : (rubricatorref22_group.l0 k2 a0 a1 l2 x8_2 false false (wrap64 (x11_2 + 1))) = some (r1, r2) := by rw [if_neg (show ¬ (false = true) by decide)] at H; exact H
                                clear H
                                have H := H1
                                clear H1
                                have H' := Aside0.mk H
                                clear H
                                have p8 : 0 ≤ (x11_2 : Int) := of_decide_eq_true (by first | (with_reducible assumption) | assumption)
                                have q8 : x11_2 < (a0.size : Int) := of_decide_eq_true (by first | (with_reducible assumption) | assumption)
                                have hx8 := bt_at a0 x11_2
                                replace p8 := eq_true p8
                                replace q8 := eq_true q8
                                go_wp2_with (first | (go_at_call 24; (with_reducible refine (rubricatorref22_digit.calls (bt a0 x11_2) false _ A10.out).mono ?_); rintro e w' ⟨rfl, ⟨nd, rfl⟩⟩) | (go_at_call 24; (with_reducible refine (rubricatorref22_digit.calls (bt a0 x11_2) false _ A37.out).mono ?_); rintro e w' ⟨rfl, ⟨nd, rfl⟩⟩))
                                go_roundg k2
                                case measure => have := HJ3.out; have := HK2.out; omega
                                case rel => exact ⟨(x8_2), (false), (false), (wrap64 (x11_2 + 1)), (by first | rfl | (simp; done) | (simp [*]; done)), (by first | rfl | (simp; done) | (simp [*]; done)), (by first | rfl | (simp; done) | (simp [*]; done)), (by first | rfl | (simp; done) | (simp [*]; done)), H', ⟨by have := HJ3.out; have := HK2.out; omega⟩, by repeat (first | exact Drawn0.refl _ | apply Drawn0.step)⟩
                        · rw [if_neg c34] at H
                          have c34b0 : decide (65 ≤ (bt a0 x11_2)) = false := decide_eq_false c34
                          clear c34
                          by_cases c39 : (bt a0 x11_2) = 95
                          · rw [if_pos c39] at H
                            have c39b0 : ((bt a0 x11_2) == 95) = true := beq_iff_eq.mpr c39
                            have c39b1 : ((bt a0 x11_2) != 95) = false := bne_eq_false_iff_eq.mpr c39
                            clear c39
                            have H' := Aside0.mk H
                            clear H
                            have p8 : 0 ≤ (x11_2 : Int) := of_decide_eq_true (by first | (with_reducible assumption) | assumption)
                            have q8 : x11_2 < (a0.size : Int) := of_decide_eq_true (by first | (with_reducible assumption) | assumption)
                            have hx8 := bt_at a0 x11_2
                            replace p8 := eq_true p8
                            replace q8 := eq_true q8
                            go_wp2_with (first | (go_at_call 24; (with_reducible refine (rubricatorref22_digit.calls (bt a0 x11_2) false _ A10.out).mono ?_); rintro e w' ⟨rfl, ⟨nd, rfl⟩⟩))
                            go_roundg k2
                            case measure => have := HJ3.out; have := HK2.out; omega
                            case rel => exact ⟨(x8_2), (false), (true), (wrap64 (x11_2 + 1)), (by first | rfl | (simp; done) | (simp [*]; done)), (by first | rfl | (simp; done) | (simp [*]; done)), (by first | rfl | (simp; done) | (simp [*]; done)), (by first | rfl | (simp; done) | (simp [*]; done)), H', ⟨by have := HJ3.out; have := HK2.out; omega⟩, by repeat (first | exact Drawn0.refl _ | apply Drawn0.step)⟩
                          · rw [if_neg c39] at H
                            have c39b0 : ((bt a0 x11_2) == 95) = false := beq_eq_false_iff_ne.mpr c39
                            have c39b1 : ((bt a0 x11_2) != 95) = true := bne_iff_ne.mpr c39
                            replace H := Option.bind_eq_some_iff.mp H
                            obtain ⟨t152, A400, H⟩ := H
                            replace H : (if t152 = true then (rubricatorref22_group.l0 k2 a0 a1 l2 x8_2 false (decide (x11_2 > 0)) (wrap64 (x11_2 + 1))) else (rubricatorref22_group.l0 k2 a0 a1 l2 x8_2 false false (wrap64 (x11_2 + 1)))) = some (r1, r2) := H
                            have A40 := Aside0.mk A400
                            clear A400
                            by_cases c41 : t152 = true
                            · subst c41
                              have H1 : (rubricatorref22_group.l0 k2 a0 a1 l2 x8_2 false (decide (x11_2 > 0)) (wrap64 (x11_2 + 1))) = some (r1, r2) := by rw [if_pos rfl] at H; exact H
                              clear H
                              have H := H1
                              clear H1
                              have H' := Aside0.mk H
                              clear H
                              have p8 : 0 ≤ (x11_2 : Int) := of_decide_eq_true (by first | (with_reducible assumption) | assumption)
                              have q8 : x11_2 < (a0.size : Int) := of_decide_eq_true (by first | (with_reducible assumption) | assumption)
                              have hx8 := bt_at a0 x11_2
                              replace p8 := eq_true p8
                              replace q8 := eq_true q8
                              exact absurd (A10.out.symm.trans A40.out) (by simp)
                            · replace c41 := Bool.eq_false_iff.mpr c41
                              subst c41
                              have H1 : (rubricatorref22_group.l0 k2 a0 a1 l2 x8_2 false false (wrap64 (x11_2 + 1))) = some (r1, r2) := by rw [if_neg (show ¬ (false = true) by decide)] at H; exact H
                              clear H
                              have H := H1
                              clear H1
                              have H' := Aside0.mk H
                              clear H
                              have p8 : 0 ≤ (x11_2 : Int) := of_decide_eq_true (by first | (with_reducible assumption) | assumption)
                              have q8 : x11_2 < (a0.size : Int) := of_decide_eq_true (by first | (with_reducible assumption) | assumption)
                              have hx8 := bt_at a0 x11_2
                              replace p8 := eq_true p8
                              replace q8 := eq_true q8
                              go_wp2_with (first | (go_at_call 24; (with_reducible refine (rubricatorref22_digit.calls (bt a0 x11_2) false _ A10.out).mono ?_); rintro e w' ⟨rfl, ⟨nd, rfl⟩⟩) | (go_at_call 24; (with_reducible refine (rubricatorref22_digit.calls (bt a0 x11_2) false _ A40.out).mono ?_); rintro e w' ⟨rfl, ⟨nd, rfl⟩⟩))
                              go_roundg k2
                              case measure => have := HJ3.out; have := HK2.out; omega
                              case rel => exact ⟨(x8_2), (false), (false), (wrap64 (x11_2 + 1)), (by first | rfl | (simp; done) | (simp [*]; done)), (by first | rfl | (simp; done) | (simp [*]; done)), (by first | rfl | (simp; done) | (simp [*]; done)), (by first | rfl | (simp; done) | (simp [*]; done)), H', ⟨by have := HJ3.out; have := HK2.out; omega⟩, by repeat (first | exact Drawn0.refl _ | apply Drawn0.step)⟩
                    · rw [if_neg c32] at H
                      have c32b0 : decide (97 ≤ (bt a0 x11_2)) = false := decide_eq_false c32
                      clear c32
                      by_cases c42 : (bt a0 x11_2) ≥ 65
                      · rw [if_pos c42] at H
                        have c42b0 : decide (65 ≤ (bt a0 x11_2)) = true := decide_eq_true c42
                        clear c42
                        by_cases c43 : (bt a0 x11_2) ≤ 90
                        · rw [if_pos c43] at H
                          have c43b0 : decide ((bt a0 x11_2) ≤ 90) = true := decide_eq_true c43
                          clear c43
                          have H' := Aside0.mk H
                          clear H
                          have p8 : 0 ≤ (x11_2 : Int) := of_decide_eq_true (by first | (with_reducible assumption) | assumption)
                          have q8 : x11_2 < (a0.size : Int) := of_decide_eq_true (by first | (with_reducible assumption) | assumption)
                          have hx8 := bt_at a0 x11_2
                          replace p8 := eq_true p8
                          replace q8 := eq_true q8
                          go_wp2_with (first | (go_at_call 24; (with_reducible refine (rubricatorref22_digit.calls (bt a0 x11_2) false _ A10.out).mono ?_); rintro e w' ⟨rfl, ⟨nd, rfl⟩⟩))
                          go_roundg k2
                          case measure => have := HJ3.out; have := HK2.out; omega
                          case rel => exact ⟨(x8_2), (false), (true), (wrap64 (x11_2 + 1)), (by first | rfl | (simp; done) | (simp [*]; done)), (by first | rfl | (simp; done) | (simp [*]; done)), (by first | rfl | (simp; done) | (simp [*]; done)), (by first | rfl | (simp; done) | (simp [*]; done)), H', ⟨by have := HJ3.out; have := HK2.out; omega⟩, by repeat (first | exact Drawn0.refl _ | apply Drawn0.step)⟩
                        · rw [if_neg c43] at H
                          have c43b0 : decide ((bt a0 x11_2) ≤ 90) = false := decide_eq_false c43
                          clear c43
                          by_cases c44 : (bt a0 x11_2) = 95
                          · rw [if_pos c44] at H
                            have c44b0 : ((bt a0 x11_2) == 95) = true := beq_iff_eq.mpr c44
                            have c44b1 : ((bt a0 x11_2) != 95) = false := bne_eq_false_iff_eq.mpr c44
                            clear c44
                            have H' := Aside0.mk H
                            clear H
                            have p8 : 0 ≤ (x11_2 : Int) := of_decide_eq_true (by first | (with_reducible assumption) | assumption)
                            have q8 : x11_2 < (a0.size : Int) := of_decide_eq_true (by first | (with_reducible assumption) | assumption)
                            have hx8 := bt_at a0 x11_2
                            replace p8 := eq_true p8
                            replace q8 := eq_true q8
                            go_wp2_with (first | (go_at_call 24; (with_reducible refine (rubricatorref22_digit.calls (bt a0 x11_2) false _ A10.out).mono ?_); rintro e w' ⟨rfl, ⟨nd, rfl⟩⟩))
                            go_roundg k2
                            case measure => have := HJ3.out; have := HK2.out; omega
                            case rel => exact ⟨(x8_2), (false), (true), (wrap64 (x11_2 + 1)), (by first | rfl | (simp; done) | (simp [*]; done)), (by first | rfl | (simp; done) | (simp [*]; done)), (by first | rfl | (simp; done) | (simp [*]; done)), (by first | rfl | (simp; done) | (simp [*]; done)), H', ⟨by have := HJ3.out; have := HK2.out; omega⟩, by repeat (first | exact Drawn0.refl _ | apply Drawn0.step)⟩
                          · rw [if_neg c44] at H
                            have c44b0 : ((bt a0 x11_2) == 95) = false := beq_eq_false_iff_ne.mpr c44
                            have c44b1 : ((bt a0 x11_2) != 95) = true := bne_iff_ne.mpr c44
                            replace H := Option.bind_eq_some_iff.mp H
                            obtain ⟨t153, A450, H⟩ := H
                            replace H : (if t153 = true then (rubricatorref22_group.l0 k2 a0 a1 l2 x8_2 false (decide (x11_2 > 0)) (wrap64 (x11_2 + 1))) else (rubricatorref22_group.l0 k2 a0 a1 l2 x8_2 false false (wrap64 (x11_2 + 1)))) = some (r1, r2) := H
                            have A45 := Aside0.mk A450
                            clear A450
                            by_cases c46 : t153 = true
                            · subst c46
                              have H1 : (rubricatorref22_group.l0 k2 a0 a1 l2 x8_2 false (decide (x11_2 > 0)) (wrap64 (x11_2 + 1))) = some (r1, r2) := by rw [if_pos rfl] at H; exact H
                              clear H
                              have H := H1
                              clear H1
                              have H' := Aside0.mk H
                              clear H
                              have p8 : 0 ≤ (x11_2 : Int) := of_decide_eq_true (by first | (with_reducible assumption) | assumption)
                              have q8 : x11_2 < (a0.size : Int) := of_decide_eq_true (by first | (with_reducible assumption) | assumption)
                              have hx8 := bt_at a0 x11_2
                              replace p8 := eq_true p8
                              replace q8 := eq_true q8
                              exact absurd (A10.out.symm.trans A45.out) (by simp)
                            · replace c46 := Bool.eq_false_iff.mpr c46
                              subst c46
                              have H1 : (rubricatorref22_group.l0 k2 a0 a1 l2 x8_2 false false (wrap64 (x11_2 + 1))) = some (r1, r2) := by rw [if_neg (show ¬ (false = true) by decide)] at H; exact H
                              clear H
                              have H := H1
                              clear H1
                              have H' := Aside0.mk H
                              clear H
                              have p8 : 0 ≤ (x11_2 : Int) := of_decide_eq_true (by first | (with_reducible assumption) | assumption)
                              have q8 : x11_2 < (a0.size : Int) := of_decide_eq_true (by first | (with_reducible assumption) | assumption)
                              have hx8 := bt_at a0 x11_2
                              replace p8 := eq_true p8
                              replace q8 := eq_true q8
                              go_wp2_with (first | (go_at_call 24; (with_reducible refine (rubricatorref22_digit.calls (bt a0 x11_2) false _ A10.out).mono ?_); rintro e w' ⟨rfl, ⟨nd, rfl⟩⟩) | (go_at_call 24; (with_reducible refine (rubricatorref22_digit.calls (bt a0 x11_2) false _ A45.out).mono ?_); rintro e w' ⟨rfl, ⟨nd, rfl⟩⟩))
                              go_roundg k2
                              case measure => have := HJ3.out; have := HK2.out; omega
                              case rel => exact ⟨(x8_2), (false), (false), (wrap64 (x11_2 + 1)), (by first | rfl | (simp; done) | (simp [*]; done)), (by first | rfl | (simp; done) | (simp [*]; done)), (by first | rfl | (simp; done) | (simp [*]; done)), (by first | rfl | (simp; done) | (simp [*]; done)), H', ⟨by have := HJ3.out; have := HK2.out; omega⟩, by repeat (first | exact Drawn0.refl _ | apply Drawn0.step)⟩
                      · rw [if_neg c42] at H
                        have c42b0 : decide (65 ≤ (bt a0 x11_2)) = false := decide_eq_false c42
                        clear c42
                        by_cases c47 : (bt a0 x11_2) = 95
                        · rw [if_pos c47] at H
                          have c47b0 : ((bt a0 x11_2) == 95) = true := beq_iff_eq.mpr c47
                          have c47b1 : ((bt a0 x11_2) != 95) = false := bne_eq_false_iff_eq.mpr c47
                          clear c47
                          have H' := Aside0.mk H
                          clear H
                          have p8 : 0 ≤ (x11_2 : Int) := of_decide_eq_true (by first | (with_reducible assumption) | assumption)
                          have q8 : x11_2 < (a0.size : Int) := of_decide_eq_true (by first | (with_reducible assumption) | assumption)
                          have hx8 := bt_at a0 x11_2
                          replace p8 := eq_true p8
                          replace q8 := eq_true q8
                          go_wp2_with (first | (go_at_call 24; (with_reducible refine (rubricatorref22_digit.calls (bt a0 x11_2) false _ A10.out).mono ?_); rintro e w' ⟨rfl, ⟨nd, rfl⟩⟩))
                          go_roundg k2
                          case measure => have := HJ3.out; have := HK2.out; omega
                          case rel => exact ⟨(x8_2), (false), (true), (wrap64 (x11_2 + 1)), (by first | rfl | (simp; done) | (simp [*]; done)), (by first | rfl | (simp; done) | (simp [*]; done)), (by first | rfl | (simp; done) | (simp [*]; done)), (by first | rfl | (simp; done) | (simp [*]; done)), H', ⟨by have := HJ3.out; have := HK2.out; omega⟩, by repeat (first | exact Drawn0.refl _ | apply Drawn0.step)⟩
                        · rw [if_neg c47] at H
                          have c47b0 : ((bt a0 x11_2) == 95) = false := beq_eq_false_iff_ne.mpr c47
                          have c47b1 : ((bt a0 x11_2) != 95) = true := bne_iff_ne.mpr c47
                          replace H := Option.bind_eq_some_iff.mp H
                          obtain ⟨t154, A480, H⟩ := H
                          replace H : (if t154 = true then (rubricatorref22_group.l0 k2 a0 a1 l2 x8_2 false (decide (x11_2 > 0)) (wrap64 (x11_2 + 1))) else (rubricatorref22_group.l0 k2 a0 a1 l2 x8_2 false false (wrap64 (x11_2 + 1)))) = some (r1, r2) := H
                          have A48 := Aside0.mk A480
                          clear A480
                          by_cases c49 : t154 = true
                          · subst c49
                            have H1 : (rubricatorref22_group.l0 k2 a0 a1 l2 x8_2 false (decide (x11_2 > 0)) (wrap64 (x11_2 + 1))) = some (r1, r2) := by rw [if_pos rfl] at H; exact H
                            clear H
                            have H := H1
                            clear H1
                            have H' := Aside0.mk H
                            clear H
                            have p8 : 0 ≤ (x11_2 : Int) := of_decide_eq_true (by first | (with_reducible assumption) | assumption)
                            have q8 : x11_2 < (a0.size : Int) := of_decide_eq_true (by first | (with_reducible assumption) | assumption)
                            have hx8 := bt_at a0 x11_2
                            replace p8 := eq_true p8
                            replace q8 := eq_true q8
                            exact absurd (A10.out.symm.trans A48.out) (by simp)
                          · replace c49 := Bool.eq_false_iff.mpr c49
                            subst c49
                            have H1 : (rubricatorref22_group.l0 k2 a0 a1 l2 x8_2 false false (wrap64 (x11_2 + 1))) = some (r1, r2) := by rw [if_neg (show ¬ (false = true) by decide)] at H; exact H
                            clear H
                            have H := H1
                            clear H1
                            have H' := Aside0.mk H
                            clear H
                            have p8 : 0 ≤ (x11_2 : Int) := of_decide_eq_true (by first | (with_reducible assumption) | assumption)
                            have q8 : x11_2 < (a0.size : Int) := of_decide_eq_true (by first | (with_reducible assumption) | assumption)
                            have hx8 := bt_at a0 x11_2
                            replace p8 := eq_true p8
                            replace q8 := eq_true q8
                            go_wp2_with (first | (go_at_call 24; (with_reducible refine (rubricatorref22_digit.calls (bt a0 x11_2) false _ A10.out).mono ?_); rintro e w' ⟨rfl, ⟨nd, rfl⟩⟩) | (go_at_call 24; (with_reducible refine (rubricatorref22_digit.calls (bt a0 x11_2) false _ A48.out).mono ?_); rintro e w' ⟨rfl, ⟨nd, rfl⟩⟩))
                            go_roundg k2
                            case measure => have := HJ3.out; have := HK2.out; omega
                            case rel => exact ⟨(x8_2), (false), (false), (wrap64 (x11_2 + 1)), (by first | rfl | (simp; done) | (simp [*]; done)), (by first | rfl | (simp; done) | (simp [*]; done)), (by first | rfl | (simp; done) | (simp [*]; done)), (by first | rfl | (simp; done) | (simp [*]; done)), H', ⟨by have := HJ3.out; have := HK2.out; omega⟩, by repeat (first | exact Drawn0.refl _ | apply Drawn0.step)⟩
                  · replace c31 := Bool.eq_false_iff.mpr c31
                    subst c31
                    have H1 : (rubricatorref22_group.l0 k2 a0 a1 l2 x8_2 false false (wrap64 (x11_2 + 1))) = some (r1, r2) := by rw [if_neg (show ¬ (false = true) by decide)] at H; exact H
                    clear H
                    have H := H1
                    clear H1
                    have H' := Aside0.mk H
                    clear H
                    have p8 : 0 ≤ (x11_2 : Int) := of_decide_eq_true (by first | (with_reducible assumption) | assumption)
                    have q8 : x11_2 < (a0.size : Int) := of_decide_eq_true (by first | (with_reducible assumption) | assumption)
                    have hx8 := bt_at a0 x11_2
                    replace p8 := eq_true p8
                    replace q8 := eq_true q8
                    go_wp2_with (first | (go_at_call 24; (with_reducible refine (rubricatorref22_digit.calls (bt a0 x11_2) false _ A10.out).mono ?_); rintro e w' ⟨rfl, ⟨nd, rfl⟩⟩))
                    go_roundg k2
                    case measure => have := HJ3.out; have := HK2.out; omega
                    case rel => exact ⟨(x8_2), (false), (false), (wrap64 (x11_2 + 1)), (by first | rfl | (simp; done) | (simp [*]; done)), (by first | rfl | (simp; done) | (simp [*]; done)), (by first | rfl | (simp; done) | (simp [*]; done)), (by first | rfl | (simp; done) | (simp [*]; done)), H', ⟨by have := HJ3.out; have := HK2.out; omega⟩, by repeat (first | exact Drawn0.refl _ | apply Drawn0.step)⟩
              · replace c9 := Bool.eq_false_iff.mpr c9
                subst c9
                have H1 : (if x10_2 = true then (if (bt a0 x11_2) ≥ 97 then (if (bt a0 x11_2) ≤ 122 then (rubricatorref22_group.l0 k2 a0 a1 l2 x8_2 false true (wrap64 (x11_2 + 1))) else (if (bt a0 x11_2) ≥ 65 then (if (bt a0 x11_2) ≤ 90 then (rubricatorref22_group.l0 k2 a0 a1 l2 x8_2 false true (wrap64 (x11_2 + 1))) else (if (bt a0 x11_2) = 95 then (rubricatorref22_group.l0 k2 a0 a1 l2 x8_2 false true (wrap64 (x11_2 + 1))) else ((rubricatorref22_digit.f (bt a0 x11_2)).bind fun t155 => (if t155 = true then (rubricatorref22_group.l0 k2 a0 a1 l2 x8_2 false (decide (x11_2 > 0)) (wrap64 (x11_2 + 1))) else (rubricatorref22_group.l0 k2 a0 a1 l2 x8_2 false false (wrap64 (x11_2 + 1))))))) else (if (bt a0 x11_2) = 95 then (rubricatorref22_group.l0 k2 a0 a1 l2 x8_2 false true (wrap64 (x11_2 + 1))) else ((rubricatorref22_digit.f (bt a0 x11_2)).bind fun t156 => (if t156 = true then (rubricatorref22_group.l0 k2 a0 a1 l2 x8_2 false (decide (x11_2 > 0)) (wrap64 (x11_2 + 1))) else (rubricatorref22_group.l0 k2 a0 a1 l2 x8_2 false false (wrap64 (x11_2 + 1)))))))) else (if (bt a0 x11_2) ≥ 65 then (if (bt a0 x11_2) ≤ 90 then (rubricatorref22_group.l0 k2 a0 a1 l2 x8_2 false true (wrap64 (x11_2 + 1))) else (if (bt a0 x11_2) = 95 then (rubricatorref22_group.l0 k2 a0 a1 l2 x8_2 false true (wrap64 (x11_2 + 1))) else ((rubricatorref22_digit.f (bt a0 x11_2)).bind fun t157 => (if t157 = true then (rubricatorref22_group.l0 k2 a0 a1 l2 x8_2 false (decide (x11_2 > 0)) (wrap64 (x11_2 + 1))) else (rubricatorref22_group.l0 k2 a0 a1 l2 x8_2 false false (wrap64 (x11_2 + 1))))))) else (if (bt a0 x11_2) = 95 then (rubricatorref22_group.l0 k2 a0 a1 l2 x8_2 false true (wrap64 (x11_2 + 1))) else ((rubricatorref22_digit.f (bt a0 x11_2)).bind fun t158 => (if t158 = true then (rubricatorref22_group.l0 k2 a0 a1 l2 x8_2 false (decide (x11_2 > 0)) (wrap64 (x11_2 + 1))) else (rubricatorref22_group.l0 k2 a0 a1 l2 x8_2 false false (wrap64 (x11_2 + 1)))))))) else (rubricatorref22_group.l0 k2 a0 a1 l2 x8_2 false false (wrap64 (x11_2 + 1)))) = some (r1, r2) := by rw [if_neg (show ¬ (false = true) by decide)] at H; exact H
                clear H
                have H := H1
                clear H1
                by_cases c50 : x10_2 = true
                · subst c50
                  have H1 : (if (bt a0 x11_2) ≥ 97 then (if (bt a0 x11_2) ≤ 122 then (rubricatorref22_group.l0 k2 a0 a1 l2 x8_2 false true (wrap64 (x11_2 + 1))) else (if (bt a0 x11_2) ≥ 65 then (if (bt a0 x11_2) ≤ 90 then (rubricatorref22_group.l0 k2 a0 a1 l2 x8_2 false true (wrap64 (x11_2 + 1))) else (if (bt a0 x11_2) = 95 then (rubricatorref22_group.l0 k2 a0 a1 l2 x8_2 false true (wrap64 (x11_2 + 1))) else ((rubricatorref22_digit.f (bt a0 x11_2)).bind fun t155 => (if t155 = true then (rubricatorref22_group.l0 k2 a0 a1 l2 x8_2 false (decide (x11_2 > 0)) (wrap64 (x11_2 + 1))) else (rubricatorref22_group.l0 k2 a0 a1 l2 x8_2 false false (wrap64 (x11_2 + 1))))))) else (if (bt a0 x11_2) = 95 then (rubricatorref22_group.l0 k2 a0 a1 l2 x8_2 false true (wrap64 (x11_2 + 1))) else ((rubricatorref22_digit.f (bt a0 x11_2)).bind fun t156 => (if t156 = true then (rubricatorref22_group.l0 k2 a0 a1 l2 x8_2 false (decide (x11_2 > 0)) (wrap64 (x11_2 + 1))) else (rubricatorref22_group.l0 k2 a0 a1 l2 x8_2 false false (wrap64 (x11_2 + 1)))))))) else (if (bt a0 x11_2) ≥ 65 then (if (bt a0 x11_2) ≤ 90 then (rubricatorref22_group.l0 k2 a0 a1 l2 x8_2 false true (wrap64 (x11_2 + 1))) else (if (bt a0 x11_2) = 95 then (rubricatorref22_group.l0 k2 a0 a1 l2 x8_2 false true (wrap64 (x11_2 + 1))) else ((rubricatorref22_digit.f (bt a0 x11_2)).bind fun t157 => (if t157 = true then (rubricatorref22_group.l0 k2 a0 a1 l2 x8_2 false (decide (x11_2 > 0)) (wrap64 (x11_2 + 1))) else (rubricatorref22_group.l0 k2 a0 a1 l2 x8_2 false false (wrap64 (x11_2 + 1))))))) else (if (bt a0 x11_2) = 95 then (rubricatorref22_group.l0 k2 a0 a1 l2 x8_2 false true (wrap64 (x11_2 + 1))) else ((rubricatorref22_digit.f (bt a0 x11_2)).bind fun t158 => (if t158 = true then (rubricatorref22_group.l0 k2 a0 a1 l2 x8_2 false (decide (x11_2 > 0)) (wrap64 (x11_2 + 1))) else (rubricatorref22_group.l0 k2 a0 a1 l2 x8_2 false false (wrap64 (x11_2 + 1)))))))) = some (r1, r2) := by rw [if_pos rfl] at H; exact H
                  clear H
                  have H := H1
                  clear H1
                  by_cases c51 : (bt a0 x11_2) ≥ 97
                  · rw [if_pos c51] at H
                    have c51b0 : decide (97 ≤ (bt a0 x11_2)) = true := decide_eq_true c51
                    clear c51
                    by_cases c52 : (bt a0 x11_2) ≤ 122
                    · rw [if_pos c52] at H
                      have c52b0 : decide ((bt a0 x11_2) ≤ 122) = true := decide_eq_true c52
                      clear c52
                      have H' := Aside0.mk H
                      clear H
                      have p8 : 0 ≤ (x11_2 : Int) := of_decide_eq_true (by first | (with_reducible assumption) | assumption)
                      have q8 : x11_2 < (a0.size : Int) := of_decide_eq_true (by first | (with_reducible assumption) | assumption)
                      have hx8 := bt_at a0 x11_2
                      replace p8 := eq_true p8
                      replace q8 := eq_true q8
                      go_wp2
                      go_roundg k2
                      case measure => have := HJ3.out; have := HK2.out; omega
                      case rel => exact ⟨(x8_2), (false), (true), (wrap64 (x11_2 + 1)), (by first | rfl | (simp; done) | (simp [*]; done)), (by first | rfl | (simp; done) | (simp [*]; done)), (by first | rfl | (simp; done) | (simp [*]; done)), (by first | rfl | (simp; done) | (simp [*]; done)), H', ⟨by have := HJ3.out; have := HK2.out; omega⟩, by repeat (first | exact Drawn0.refl _ | apply Drawn0.step)⟩
                    · rw [if_neg c52] at H
                      have c52b0 : decide ((bt a0 x11_2) ≤ 122) = false := decide_eq_false c52
                      clear c52
                      by_cases c53 : (bt a0 x11_2) ≥ 65
                      · rw [if_pos c53] at H
                        have c53b0 : decide (65 ≤ (bt a0 x11_2)) = true := decide_eq_true c53
                        clear c53
                        by_cases c54 : (bt a0 x11_2) ≤ 90
                        · rw [if_pos c54] at H
                          have c54b0 : decide ((bt a0 x11_2) ≤ 90) = true := decide_eq_true c54
                          clear c54
                          have H' := Aside0.mk H
                          clear H
                          have p8 : 0 ≤ (x11_2 : Int) := of_decide_eq_true (by first | (with_reducible assumption) | assumption)
                          have q8 : x11_2 < (a0.size : Int) := of_decide_eq_true (by first | (with_reducible assumption) | assumption)
                          have hx8 := bt_at a0 x11_2
                          replace p8 := eq_true p8
                          replace q8 := eq_true q8
                          go_wp2
                          go_roundg k2
                          case measure => have := HJ3.out; have := HK2.out; omega
                          case rel => exact ⟨(x8_2), (false), (true), (wrap64 (x11_2 + 1)), (by first | rfl | (simp; done) | (simp [*]; done)), (by first | rfl | (simp; done) | (simp [*]; done)), (by first | rfl | (simp; done) | (simp [*]; done)), (by first | rfl | (simp; done) | (simp [*]; done)), H', ⟨by have := HJ3.out; have := HK2.out; omega⟩, by repeat (first | exact Drawn0.refl _ | apply Drawn0.step)⟩
                        · rw [if_neg c54] at H
                          have c54b0 : decide ((bt a0 x11_2) ≤ 90) = false := decide_eq_false c54
                          clear c54
                          by_cases c55 : (bt a0 x11_2) = 95
                          · rw [if_pos c55] at H
                            have c55b0 : ((bt a0 x11_2) == 95) = true := beq_iff_eq.mpr c55
                            have c55b1 : ((bt a0 x11_2) != 95) = false := bne_eq_false_iff_eq.mpr c55
                            clear c55
                            have H' := Aside0.mk H
                            clear H
                            have p8 : 0 ≤ (x11_2 : Int) := of_decide_eq_true (by first | (with_reducible assumption) | assumption)
                            have q8 : x11_2 < (a0.size : Int) := of_decide_eq_true (by first | (with_reducible assumption) | assumption)
                            have hx8 := bt_at a0 x11_2
                            replace p8 := eq_true p8
                            replace q8 := eq_true q8
                            go_wp2
                            go_roundg k2
                            case measure => have := HJ3.out; have := HK2.out; omega
                            case rel => exact ⟨(x8_2), (false), (true), (wrap64 (x11_2 + 1)), (by first | rfl | (simp; done) | (simp [*]; done)), (by first | rfl | (simp; done) | (simp [*]; done)), (by first | rfl | (simp; done) | (simp [*]; done)), (by first | rfl | (simp; done) | (simp [*]; done)), H', ⟨by have := HJ3.out; have := HK2.out; omega⟩, by repeat (first | exact Drawn0.refl _ | apply Drawn0.step)⟩
                          · rw [if_neg c55] at H
                            have c55b0 : ((bt a0 x11_2) == 95) = false := beq_eq_false_iff_ne.mpr c55
                            have c55b1 : ((bt a0 x11_2) != 95) = true := bne_iff_ne.mpr c55
                            replace H := Option.bind_eq_some_iff.mp H
                            obtain ⟨t155, A560, H⟩ := H
                            replace H : (if t155 = true then (rubricatorref22_group.l0 k2 a0 a1 l2 x8_2 false (decide (x11_2 > 0)) (wrap64 (x11_2 + 1))) else (rubricatorref22_group.l0 k2 a0 a1 l2 x8_2 false false (wrap64 (x11_2 + 1)))) = some (r1, r2) := H
                            have A56 := Aside0.mk A560
                            clear A560
                            by_cases c57 : t155 = true
                            · subst c57
                              have H1 : (rubricatorref22_group.l0 k2 a0 a1 l2 x8_2 false (decide (x11_2 > 0)) (wrap64 (x11_2 + 1))) = some (r1, r2) := by rw [if_pos rfl] at H; exact H
                              clear H
                              have H := H1
                              clear H1
                              have H' := Aside0.mk H
                              clear H
                              have p8 : 0 ≤ (x11_2 : Int) := of_decide_eq_true (by first | (with_reducible assumption) | assumption)
                              have q8 : x11_2 < (a0.size : Int) := of_decide_eq_true (by first | (with_reducible assumption) | assumption)
                              have hx8 := bt_at a0 x11_2
                              replace p8 := eq_true p8
                              replace q8 := eq_true q8
                              go_wp2_with (first | (go_at_call 24; (with_reducible refine (rubricatorref22_digit.calls (bt a0 x11_2) true _ A56.out).mono ?_); rintro e w' ⟨rfl, ⟨nd, rfl⟩⟩))
                              go_roundg k2
                              case measure => have := HJ3.out; have := HK2.out; omega
                              case rel => exact ⟨(x8_2), (false), (decide (x11_2 > 0)), (wrap64 (x11_2 + 1)), (by first | rfl | (simp; done) | (simp [*]; done)), (by first | rfl | (simp; done) | (simp [*]; done)), (by first | rfl | (simp; done) | (simp [*]; done)), (by first | rfl | (simp; done) | (simp [*]; done)), H', ⟨by have := HJ3.out; have := HK2.out; omega⟩, by repeat (first | exact Drawn0.refl _ | apply Drawn0.step)⟩
                            · replace c57 := Bool.eq_false_iff.mpr c57
                              subst c57
                              have H1 : (rubricatorref22_group.l0 k2 a0 a1 l2 x8_2 false false (wrap64 (x11_2 + 1))) = some (r1, r2) := by rw [if_neg (show ¬ (false = true) by decide)] at H; exact H
                              clear H
                              have H := H1
                              clear H1
                              have H' := Aside0.mk H
                              clear H
                              have p8 : 0 ≤ (x11_2 : Int) := of_decide_eq_true (by first | (with_reducible assumption) | assumption)
                              have q8 : x11_2 < (a0.size : Int) := of_decide_eq_true (by first | (with_reducible assumption) | assumption)
                              have hx8 := bt_at a0 x11_2
                              replace p8 := eq_true p8
                              replace q8 := eq_true q8
                              go_wp2_with (first | (go_at_call 24; (with_reducible refine (rubricatorref22_digit.calls (bt a0 x11_2) false _ A56.out).mono ?_); rintro e w' ⟨rfl, ⟨nd, rfl⟩⟩))
                              go_roundg k2
                              case measure => have := HJ3.out; have := HK2.out; omega
                              case rel => exact ⟨(x8_2), (false), (false), (wrap64 (x11_2 + 1)), (by first | rfl | (simp; done) | (simp [*]; done)), (by first | rfl | (simp; done) | (simp [*]; done)), (by first | rfl | (simp; done) | (simp [*]; done)), (by first | rfl | (simp; done) | (simp [*]; done)), H', ⟨by have := HJ3.out; have := HK2.out; omega⟩, by repeat (first | exact Drawn0.refl _ | apply Drawn0.step)⟩
                      · rw [if_neg c53] at H
                        have c53b0 : decide (65 ≤ (bt a0 x11_2)) = false := decide_eq_false c53
                        clear c53
                        by_cases c58 : (bt a0 x11_2) = 95
                        · rw [if_pos c58] at H
                          have c58b0 : ((bt a0 x11_2) == 95) = true := beq_iff_eq.mpr c58
                          have c58b1 : ((bt a0 x11_2) != 95) = false := bne_eq_false_iff_eq.mpr c58
                          clear c58
                          have H' := Aside0.mk H
                          clear H
                          have p8 : 0 ≤ (x11_2 : Int) := of_decide_eq_true (by first | (with_reducible assumption) | assumption)
                          have q8 : x11_2 < (a0.size : Int) := of_decide_eq_true (by first | (with_reducible assumption) | assumption)
                          have hx8 := bt_at a0 x11_2
                          replace p8 := eq_true p8
                          replace q8 := eq_true q8
                          go_wp2
                          go_roundg k2
                          case measure => have := HJ3.out; have := HK2.out; omega
                          case rel => exact ⟨(x8_2), (false), (true), (wrap64 (x11_2 + 1)), (by first | rfl | (simp; done) | (simp [*]; done)), (by first | rfl | (simp; done) | (simp [*]; done)), (by first | rfl | (simp; done) | (simp [*]; done)), (by first | rfl | (simp; done) | (simp [*]; done)), H', ⟨by have := HJ3.out; have := HK2.out; omega⟩, by repeat (first | exact Drawn0.refl _ | apply Drawn0.step)⟩
                        · rw [if_neg c58] at H
                          have c58b0 : ((bt a0 x11_2) == 95) = false := beq_eq_false_iff_ne.mpr c58
                          have c58b1 : ((bt a0 x11_2) != 95) = true := bne_iff_ne.mpr c58
                          replace H := Option.bind_eq_some_iff.mp H
                          obtain ⟨t156, A590, H⟩ := H
                          replace H : (if t156 = true then (rubricatorref22_group.l0 k2 a0 a1 l2 x8_2 false (decide (x11_2 > 0)) (wrap64 (x11_2 + 1))) else (rubricatorref22_group.l0 k2 a0 a1 l2 x8_2 false false (wrap64 (x11_2 + 1)))) = some (r1, r2) := H
                          have A59 := Aside0.mk A590
                          clear A590
                          by_cases c60 : t156 = true
                          · subst c60
                            have H1 : (rubricatorref22_group.l0 k2 a0 a1 l2 x8_2 false (decide (x11_2 > 0)) (wrap64 (x11_2 + 1))) = some (r1, r2) := by rw [if_pos rfl] at H; exact H
                            clear H
                            have H := H1
                            clear H1
                            have H' := Aside0.mk H
                            clear H
                            have p8 : 0 ≤ (x11_2 : Int) := of_decide_eq_true (by first | (with_reducible assumption) | assumption)
                            have q8 : x11_2 < (a0.size : Int) := of_decide_eq_true (by first | (with_reducible assumption) | assumption)
                            have hx8 := bt_at a0 x11_2
                            replace p8 := eq_true p8
                            replace q8 := eq_true q8
                            go_wp2_with (first | (go_at_call 24; (with_reducible refine (rubricatorref22_digit.calls (bt a0 x11_2) true _ A59.out).mono ?_); rintro e w' ⟨rfl, ⟨nd, rfl⟩⟩))
                            go_roundg k2
                            case measure => have := HJ3.out; have := HK2.out; omega
                            case rel => exact ⟨(x8_2), (false), (decide (x11_2 > 0)), (wrap64 (x11_2 + 1)), (by first | rfl | (simp; done) | (simp [*]; done)), (by first | rfl | (simp; done) | (simp [*]; done)), (by first | rfl | (simp; done) | (simp [*]; done)), (by first | rfl | (simp; done) | (simp [*]; done)), H', ⟨by have := HJ3.out; have := HK2.out; omega⟩, by repeat (first | exact Drawn0.refl _ | apply Drawn0.step)⟩
                          · replace c60 := Bool.eq_false_iff.mpr c60
                            subst c60
                            have H1 : (rubricatorref22_group.l0 k2 a0 a1 l2 x8_2 false false (wrap64 (x11_2 + 1))) = some (r1, r2) := by rw [if_neg (show ¬ (false = true) by decide)] at H; exact H
                            clear H
                            have H := H1
                            clear H1
                            have H' := Aside0.mk H
                            clear H
                            have p8 : 0 ≤ (x11_2 : Int) := of_decide_eq_true (by first | (with_reducible assumption) | assumption)
                            have q8 : x11_2 < (a0.size : Int) := of_decide_eq_true (by first | (with_reducible assumption) | assumption)
                            have hx8 := bt_at a0 x11_2
                            replace p8 := eq_true p8
                            replace q8 := eq_true q8
                            go_wp2_with (first | (go_at_call 24; (with_reducible refine (rubricatorref22_digit.calls (bt a0 x11_2) false _ A59.out).mono ?_); rintro e w' ⟨rfl, ⟨nd, rfl⟩⟩))
                            go_roundg k2
                            case measure => have := HJ3.out; have := HK2.out; omega
                            case rel => exact ⟨(x8_2), (false), (false), (wrap64 (x11_2 + 1)), (by first | rfl | (simp; done) | (simp [*]; done)), (by first | rfl | (simp; done) | (simp [*]; done)), (by first | rfl | (simp; done) | (simp [*]; done)), (by first | rfl | (simp; done) | (simp [*]; done)), H', ⟨by have := HJ3.out; have := HK2.out; omega⟩, by repeat (first | exact Drawn0.refl _ | apply Drawn0.step)⟩
                  · rw [if_neg c51] at H
                    have c51b0 : decide (97 ≤ (bt a0 x11_2)) = false := decide_eq_false c51
                    clear c51
                    by_cases c61 : (bt a0 x11_2) ≥ 65
                    · rw [if_pos c61] at H
                      have c61b0 : decide (65 ≤ (bt a0 x11_2)) = true := decide_eq_true c61
                      clear c61
                      by_cases c62 : (bt a0 x11_2) ≤ 90
                      · rw [if_pos c62] at H
                        have c62b0 : decide ((bt a0 x11_2) ≤ 90) = true := decide_eq_true c62
                        clear c62
                        have H' := Aside0.mk H
                        clear H
                        have p8 : 0 ≤ (x11_2 : Int) := of_decide_eq_true (by first | (with_reducible assumption) | assumption)
                        have q8 : x11_2 < (a0.size : Int) := of_decide_eq_true (by first | (with_reducible assumption) | assumption)
                        have hx8 := bt_at a0 x11_2
                        replace p8 := eq_true p8
                        replace q8 := eq_true q8
                        go_wp2
                        go_roundg k2
                        case measure => have := HJ3.out; have := HK2.out; omega
                        case rel => exact ⟨(x8_2), (false), (true), (wrap64 (x11_2 + 1)), (by first | rfl | (simp; done) | (simp [*]; done)), (by first | rfl | (simp; done) | (simp [*]; done)), (by first | rfl | (simp; done) | (simp [*]; done)), (by first | rfl | (simp; done) | (simp [*]; done)), H', ⟨by have := HJ3.out; have := HK2.out; omega⟩, by repeat (first | exact Drawn0.refl _ | apply Drawn0.step)⟩
                      · rw [if_neg c62] at H
                        have c62b0 : decide ((bt a0 x11_2) ≤ 90) = false := decide_eq_false c62
                        clear c62
                        by_cases c63 : (bt a0 x11_2) = 95
                        · rw [if_pos c63] at H
                          have c63b0 : ((bt a0 x11_2) == 95) = true := beq_iff_eq.mpr c63
                          have c63b1 : ((bt a0 x11_2) != 95) = false := bne_eq_false_iff_eq.mpr c63
                          clear c63
                          have H' := Aside0.mk H
                          clear H
                          have p8 : 0 ≤ (x11_2 : Int) := of_decide_eq_true (by first | (with_reducible assumption) | assumption)
                          have q8 : x11_2 < (a0.size : Int) := of_decide_eq_true (by first | (with_reducible assumption) | assumption)
                          have hx8 := bt_at a0 x11_2
                          replace p8 := eq_true p8
                          replace q8 := eq_true q8
                          go_wp2
                          go_roundg k2
                          case measure => have := HJ3.out; have := HK2.out; omega
                          case rel => exact ⟨(x8_2), (false), (true), (wrap64 (x11_2 + 1)), (by first | rfl | (simp; done) | (simp [*]; done)), (by first | rfl | (simp; done) | (simp [*]; done)), (by first | rfl | (simp; done) | (simp [*]; done)), (by first | rfl | (simp; done) | (simp [*]; done)), H', ⟨by have := HJ3.out; have := HK2.out; omega⟩, by repeat (first | exact Drawn0.refl _ | apply Drawn0.step)⟩
                        · rw [if_neg c63] at H
                          have c63b0 : ((bt a0 x11_2) == 95) = false := beq_eq_false_iff_ne.mpr c63
                          have c63b1 : ((bt a0 x11_2) != 95) = true := bne_iff_ne.mpr c63
                          replace H := Option.bind_eq_some_iff.mp H
                          obtain ⟨t157, A640, H⟩ := H
                          replace H : (if t157 = true then (rubricatorref22_group.l0 k2 a0 a1 l2 x8_2 false (decide (x11_2 > 0)) (wrap64 (x11_2 + 1))) else (rubricatorref22_group.l0 k2 a0 a1 l2 x8_2 false false (wrap64 (x11_2 + 1)))) = some (r1, r2) := H
                          have A64 := Aside0.mk A640
                          clear A640
                          by_cases c65 : t157 = true
                          · subst c65
                            have H1 : (rubricatorref22_group.l0 k2 a0 a1 l2 x8_2 false (decide (x11_2 > 0)) (wrap64 (x11_2 + 1))) = some (r1, r2) := by rw [if_pos rfl] at H; exact H
                            clear H
                            have H := H1
                            clear H1
                            have H' := Aside0.mk H
                            clear H
                            have p8 : 0 ≤ (x11_2 : Int) := of_decide_eq_true (by first | (with_reducible assumption) | assumption)
                            have q8 : x11_2 < (a0.size : Int) := of_decide_eq_true (by first | (with_reducible assumption) | assumption)
                            have hx8 := bt_at a0 x11_2
                            replace p8 := eq_true p8
                            replace q8 := eq_true q8
                            go_wp2_with (first | (go_at_call 24; (with_reducible refine (rubricatorref22_digit.calls (bt a0 x11_2) true _ A64.out).mono ?_); rintro e w' ⟨rfl, ⟨nd, rfl⟩⟩))
                            go_roundg k2
                            case measure => have := HJ3.out; have := HK2.out; omega
                            case rel => exact ⟨(x8_2), (false), (decide (x11_2 > 0)), (wrap64 (x11_2 + 1)), (by first | rfl | (simp; done) | (simp [*]; done)), (by first | rfl | (simp; done) | (simp [*]; done)), (by first | rfl | (simp; done) | (simp [*]; done)), (by first | rfl | (simp; done) | (simp [*]; done)), H', ⟨by have := HJ3.out; have := HK2.out; omega⟩, by repeat (first | exact Drawn0.refl _ | apply Drawn0.step)⟩
                          · replace c65 := Bool.eq_false_iff.mpr c65
                            subst c65
                            have H1 : (rubricatorref22_group.l0 k2 a0 a1 l2 x8_2 false false (wrap64 (x11_2 + 1))) = some (r1, r2) := by rw [if_neg (show ¬ (false = true) by decide)] at H; exact H
                            clear H
                            have H := H1
                            clear H1
                            have H' := Aside0.mk H
                            clear H
                            have p8 : 0 ≤ (x11_2 : Int) := of_decide_eq_true (by first | (with_reducible assumption) | assumption)
                            have q8 : x11_2 < (a0.size : Int) := of_decide_eq_true (by first | (with_reducible assumption) | assumption)
                            have hx8 := bt_at a0 x11_2
                            replace p8 := eq_true p8
                            replace q8 := eq_true q8
                            go_wp2_with (first | (go_at_call 24; (with_reducible refine (rubricatorref22_digit.calls (bt a0 x11_2) false _ A64.out).mono ?_); rintro e w' ⟨rfl, ⟨nd, rfl⟩⟩))
                            go_roundg k2
                            case measure => have := HJ3.out; have := HK2.out; omega
                            case rel => exact ⟨(x8_2), (false), (false), (wrap64 (x11_2 + 1)), (by first | rfl | (simp; done) | (simp [*]; done)), (by first | rfl | (simp; done) | (simp [*]; done)), (by first | rfl | (simp; done) | (simp [*]; done)), (by first | rfl | (simp; done) | (simp [*]; done)), H', ⟨by have := HJ3.out; have := HK2.out; omega⟩, by repeat (first | exact Drawn0.refl _ | apply Drawn0.step)⟩
                    · rw [if_neg c61] at H
                      have c61b0 : decide (65 ≤ (bt a0 x11_2)) = false := decide_eq_false c61
                      clear c61
                      by_cases c66 : (bt a0 x11_2) = 95
                      · rw [if_pos c66] at H
                        have c66b0 : ((bt a0 x11_2) == 95) = true := beq_iff_eq.mpr c66
                        have c66b1 : ((bt a0 x11_2) != 95) = false := bne_eq_false_iff_eq.mpr c66
                        clear c66
                        have H' := Aside0.mk H
                        clear H
                        have p8 : 0 ≤ (x11_2 : Int) := of_decide_eq_true (by first | (with_reducible assumption) | assumption)
                        have q8 : x11_2 < (a0.size : Int) := of_decide_eq_true (by first | (with_reducible assumption) | assumption)
                        have hx8 := bt_at a0 x11_2
                        replace p8 := eq_true p8
                        replace q8 := eq_true q8
                        go_wp2
                        go_roundg k2
                        case measure => have := HJ3.out; have := HK2.out; omega
                        case rel => exact ⟨(x8_2), (false), (true), (wrap64 (x11_2 + 1)), (by first | rfl | (simp; done) | (simp [*]; done)), (by first | rfl | (simp; done) | (simp [*]; done)), (by first | rfl | (simp; done) | (simp [*]; done)), (by first | rfl | (simp; done) | (simp [*]; done)), H', ⟨by have := HJ3.out; have := HK2.out; omega⟩, by repeat (first | exact Drawn0.refl _ | apply Drawn0.step)⟩
                      · rw [if_neg c66] at H
                        have c66b0 : ((bt a0 x11_2) == 95) = false := beq_eq_false_iff_ne.mpr c66
                        have c66b1 : ((bt a0 x11_2) != 95) = true := bne_iff_ne.mpr c66
                        replace H := Option.bind_eq_some_iff.mp H
                        obtain ⟨t158, A670, H⟩ := H
                        replace H : (if t158 = true then (rubricatorref22_group.l0 k2 a0 a1 l2 x8_2 false (decide (x11_2 > 0)) (wrap64 (x11_2 + 1))) else (rubricatorref22_group.l0 k2 a0 a1 l2 x8_2 false false (wrap64 (x11_2 + 1)))) = some (r1, r2) := H
                        have A67 := Aside0.mk A670
                        clear A670
                        by_cases c68 : t158 = true
                        · subst c68
                          have H1 : (rubricatorref22_group.l0 k2 a0 a1 l2 x8_2 false (decide (x11_2 > 0)) (wrap64 (x11_2 + 1))) = some (r1, r2) := by rw [if_pos rfl] at H; exact H
                          clear H
                          have H := H1
                          clear H1
                          have H' := Aside0.mk H
                          clear H
                          have p8 : 0 ≤ (x11_2 : Int) := of_decide_eq_true (by first | (with_reducible assumption) | assumption)
                          have q8 : x11_2 < (a0.size : Int) := of_decide_eq_true (by first | (with_reducible assumption) | assumption)
                          have hx8 := bt_at a0 x11_2
                          replace p8 := eq_true p8
                          replace q8 := eq_true q8
                          go_wp2_with (first | (go_at_call 24; (with_reducible refine (rubricatorref22_digit.calls (bt a0 x11_2) true _ A67.out).mono ?_); rintro e w' ⟨rfl, ⟨nd, rfl⟩⟩))
                          go_roundg k2
                          case measure => have := HJ3.out; have := HK2.out; omega
                          case rel => exact ⟨(x8_2), (false), (decide (x11_2 > 0)), (wrap64 (x11_2 + 1)), (by first | rfl | (simp; done) | (simp [*]; done)), (by first | rfl | (simp; done) | (simp [*]; done)), (by first | rfl | (simp; done) | (simp [*]; done)), (by first | rfl | (simp; done) | (simp [*]; done)), H', ⟨by have := HJ3.out; have := HK2.out; omega⟩, by repeat (first | exact Drawn0.refl _ | apply Drawn0.step)⟩
                        · replace c68 := Bool.eq_false_iff.mpr c68
                          subst c68
                          have H1 : (rubricatorref22_group.l0 k2 a0 a1 l2 x8_2 false false (wrap64 (x11_2 + 1))) = some (r1, r2) := by rw [if_neg (show ¬ (false = true) by decide)] at H; exact H
                          clear H
                          have H := H1
                          clear H1
                          have H' := Aside0.mk H
                          clear H
                          have p8 : 0 ≤ (x11_2 : Int) := of_decide_eq_true (by first | (with_reducible assumption) | assumption)
                          have q8 : x11_2 < (a0.size : Int) := of_decide_eq_true (by first | (with_reducible assumption) | assumption)
                          have hx8 := bt_at a0 x11_2
                          replace p8 := eq_true p8
                          replace q8 := eq_true q8
                          go_wp2_with (first | (go_at_call 24; (with_reducible refine (rubricatorref22_digit.calls (bt a0 x11_2) false _ A67.out).mono ?_); rintro e w' ⟨rfl, ⟨nd, rfl⟩⟩))
                          go_roundg k2
                          case measure => have := HJ3.out; have := HK2.out; omega
                          case rel => exact ⟨(x8_2), (false), (false), (wrap64 (x11_2 + 1)), (by first | rfl | (simp; done) | (simp [*]; done)), (by first | rfl | (simp; done) | (simp [*]; done)), (by first | rfl | (simp; done) | (simp [*]; done)), (by first | rfl | (simp; done) | (simp [*]; done)), H', ⟨by have := HJ3.out; have := HK2.out; omega⟩, by repeat (first | exact Drawn0.refl _ | apply Drawn0.step)⟩
                · replace c50 := Bool.eq_false_iff.mpr c50
                  subst c50
                  have H1 : (rubricatorref22_group.l0 k2 a0 a1 l2 x8_2 false false (wrap64 (x11_2 + 1))) = some (r1, r2) := by rw [if_neg (show ¬ (false = true) by decide)] at H; exact H
                  clear H
                  have H := H1
                  clear H1
                  have H' := Aside0.mk H
                  clear H
                  have p8 : 0 ≤ (x11_2 : Int) := of_decide_eq_true (by first | (with_reducible assumption) | assumption)
                  have q8 : x11_2 < (a0.size : Int) := of_decide_eq_true (by first | (with_reducible assumption) | assumption)
                  have hx8 := bt_at a0 x11_2
                  replace p8 := eq_true p8
                  replace q8 := eq_true q8
                  go_wp2
                  go_roundg k2
                  case measure => have := HJ3.out; have := HK2.out; omega
                  case rel => exact ⟨(x8_2), (false), (false), (wrap64 (x11_2 + 1)), (by first | rfl | (simp; done) | (simp [*]; done)), (by first | rfl | (simp; done) | (simp [*]; done)), (by first | rfl | (simp; done) | (simp [*]; done)), (by first | rfl | (simp; done) | (simp [*]; done)), H', ⟨by have := HJ3.out; have := HK2.out; omega⟩, by repeat (first | exact Drawn0.refl _ | apply Drawn0.step)⟩
            · rw [if_neg c7] at H
              exact absurd H (by simp)
          · rw [if_neg c6] at H
            have c6b0 : decide (x11_2 < (a0.size : Int)) = false := decide_eq_false c6
            clear c6
            by_cases c69 : x9_2 = true
            · subst c69
              have H1 : (if x8_2 > a1 then (some (0, 151)) else (some (x8_2, 0))) = some (r1, r2) := by rw [if_pos rfl] at H; exact H
              clear H
              have H := H1
              clear H1
              by_cases c70 : x8_2 > a1
              · rw [if_pos c70] at H
                have c70b0 : decide (a1 < x8_2) = true := decide_eq_true c70
                clear c70
                simp only [Option.some.injEq, Prod.mk.injEq] at H
                obtain ⟨rfl, rfl⟩ := H
                go_wp2
                go_ret2
                exact ⟨by first | rfl | (simp; done) | (simp [*]; done), by repeat (first | exact Drawn0.refl _ | apply Drawn0.step)⟩
              · rw [if_neg c70] at H
                have c70b0 : decide (a1 < x8_2) = false := decide_eq_false c70
                clear c70
                simp only [Option.some.injEq, Prod.mk.injEq] at H
                obtain ⟨rfl, rfl⟩ := H
                go_wp2
                go_ret2
                exact ⟨by first | rfl | (simp; done) | (simp [*]; done), by repeat (first | exact Drawn0.refl _ | apply Drawn0.step)⟩
            · replace c69 := Bool.eq_false_iff.mpr c69
              subst c69
              have H1 : (if x10_2 = true then (rubricatorref22_group.l1 k2 a0 l2 (l2.length : Int) 0) else (some (0, 220))) = some (r1, r2) := by rw [if_neg (show ¬ (false = true) by decide)] at H; exact H
              clear H
              have H := H1
              clear H1
              by_cases c71 : x10_2 = true
              · subst c71
                have H1 : (rubricatorref22_group.l1 k2 a0 l2 (l2.length : Int) 0) = some (r1, r2) := by rw [if_pos rfl] at H; exact H
                clear H
                have H := H1
                clear H1
                have H' := Aside0.mk H
                clear H
                go_wp2
                go_loopg [85] k2 (fun kq v85 w' => ∃ (x85_3 : Int), v85 = .int .i64 x85_3 ∧ Aside0 (rubricatorref22_group.l1 kq a0 l2 (l2.length : Int) x85_3 = some (r1, r2)) ∧ Aside0 (kq ≤ k2) ∧ Drawn0 w w')
                case atStart => exact ⟨(0), (by first | rfl | (simp; done) | (simp [*]; done)), H', ⟨Nat.le_refl _⟩, by repeat (first | exact Drawn0.refl _ | apply Drawn0.step)⟩
                case round =>
                  clear H'
                  try clear p2
                  try clear c3
                  try clear c4
                  try clear c5
                  try clear c6
                  try clear c6b0
                  try clear p6
                  try clear c7
                  try clear p8
                  try clear q8
                  try clear hx8
                  try clear c9
                  try clear c31
                  try clear c32
                  try clear c32b0
                  try clear c39
                  try clear c39b0
                  try clear c39b1
                  try clear c41
                  try clear c42
                  try clear c42b0
                  try clear c43
                  try clear c43b0
                  try clear c44
                  try clear c44b0
                  try clear c44b1
                  try clear c46
                  try clear c47
                  try clear c47b0
                  try clear c47b1
                  try clear c49
                  try clear c50
                  try clear c51
                  try clear c51b0
                  try clear c52
                  try clear c52b0
                  try clear c53
                  try clear c53b0
                  try clear c54
                  try clear c54b0
                  try clear c55
                  try clear c55b0
                  try clear c55b1
                  try clear c57
                  try clear c58
                  try clear c58b0
                  try clear c58b1
                  try clear c60
                  try clear c61
                  try clear c61b0
                  try clear c62
                  try clear c62b0
                  try clear c63
                  try clear c63b0
                  try clear c63b1
                  try clear p64
                  try clear c65
                  try clear c66
                  try clear c66b0
                  try clear c66b1
                  try clear c68
                  try clear c69
                  try clear c70
                  try clear c70b0
                  try clear c71
                  try clear p8
                  try clear q8
                  obtain ⟨x85_3, rfl, HA, HK3, ⟨m3, rfl⟩⟩ := hrel
                  cases gk with
                  | zero => exact absurd HA.out (by simp [rubricatorref22_group.l1])
                  | succ k3 =>
                    have H := HA.out
                    clear HA
                    simp only [rubricatorref22_group.l1] at H
                    by_cases c72 : x85_3 < (l2.length : Int)
                    · rw [if_pos c72] at H
                      have c72b0 : decide (x85_3 < (l2.length : Int)) = true := decide_eq_true c72
                      clear c72
                      by_cases c73 : 0 ≤ x85_3
                      · rw [if_pos c73] at H
                        have c73b0 : decide (0 ≤ x85_3) = true := decide_eq_true c73
                        clear c73
                        by_cases c74 : x85_3 < (l2.length : Int)
                        · rw [if_pos c74] at H
                          have c74b0 : decide (x85_3 < (l2.length : Int)) = true := decide_eq_true c74
                          clear c74
                          by_cases c75 : x85_3 > 0
                          · rw [if_pos c75] at H
                            have c75b0 : decide (0 < x85_3) = true := decide_eq_true c75
                            clear c75
                            by_cases c76 : (rdOf ByteArray.empty l2 x85_3).toList = a0.toList
                            · rw [if_pos c76] at H
                              have c76b0 : ((rdOf ByteArray.empty l2 x85_3).toList == a0.toList) = true := beq_iff_eq.mpr c76
                              have c76b1 : ((rdOf ByteArray.empty l2 x85_3).toList != a0.toList) = false := bne_eq_false_iff_eq.mpr c76
                              clear c76
                              simp only [Option.some.injEq, Prod.mk.injEq] at H
                              obtain ⟨rfl, rfl⟩ := H
                              have p159 : 0 ≤ (x85_3 : Int) := of_decide_eq_true (by first | (with_reducible assumption) | assumption)
                              have q159 : x85_3 < (l2.length : Int) := of_decide_eq_true (by first | (with_reducible assumption) | assumption)
                              obtain ⟨ad159, e159, hx159_0⟩ := Kd.at_string HR2.out x85_3 p159 q159
                              cases e159
                              replace p159 := eq_true p159
                              replace q159 := eq_true q159
                              go_wp2
                              go_ret2
                              exact ⟨by first | rfl | (simp; done) | (simp [*]; done), by repeat (first | exact Drawn0.refl _ | apply Drawn0.step)⟩
                            · rw [if_neg c76] at H
                              have c76b0 : ((rdOf ByteArray.empty l2 x85_3).toList == a0.toList) = false := beq_eq_false_iff_ne.mpr c76
                              have c76b1 : ((rdOf ByteArray.empty l2 x85_3).toList != a0.toList) = true := bne_iff_ne.mpr c76
                              have H' := Aside0.mk H
                              clear H
                              have p159 : 0 ≤ (x85_3 : Int) := of_decide_eq_true (by first | (with_reducible assumption) | assumption)
                              have q159 : x85_3 < (l2.length : Int) := of_decide_eq_true (by first | (with_reducible assumption) | assumption)
                              obtain ⟨ad159, e159, hx159_0⟩ := Kd.at_string HR2.out x85_3 p159 q159
                              cases e159
                              replace p159 := eq_true p159
                              replace q159 := eq_true q159
                              go_wp2
                              go_roundg k3
                              case measure => have := HJ3.out; have := HK2.out; have := HK3.out; omega
                              case rel => exact ⟨(wrap64 (x85_3 + 1)), (by first | rfl | (simp; done) | (simp [*]; done)), H', ⟨by have := HJ3.out; have := HK2.out; have := HK3.out; omega⟩, by repeat (first | exact Drawn0.refl _ | apply Drawn0.step)⟩
                          · rw [if_neg c75] at H
                            have c75b0 : decide (0 < x85_3) = false := decide_eq_false c75
                            clear c75
                            have H' := Aside0.mk H
                            clear H
                            have p159 : 0 ≤ (x85_3 : Int) := of_decide_eq_true (by first | (with_reducible assumption) | assumption)
                            have q159 : x85_3 < (l2.length : Int) := of_decide_eq_true (by first | (with_reducible assumption) | assumption)
                            obtain ⟨ad159, e159, hx159_0⟩ := Kd.at_string HR2.out x85_3 p159 q159
                            cases e159
                            replace p159 := eq_true p159
                            replace q159 := eq_true q159
                            go_wp2
                            go_roundg k3
                            case measure => have := HJ3.out; have := HK2.out; have := HK3.out; omega
                            case rel => exact ⟨(wrap64 (x85_3 + 1)), (by first | rfl | (simp; done) | (simp [*]; done)), H', ⟨by have := HJ3.out; have := HK2.out; have := HK3.out; omega⟩, by repeat (first | exact Drawn0.refl _ | apply Drawn0.step)⟩
                        · rw [if_neg c74] at H
                          exact absurd H (by simp)
                      · rw [if_neg c73] at H
                        exact absurd H (by simp)
                    · rw [if_neg c72] at H
                      have c72b0 : decide (x85_3 < (l2.length : Int)) = false := decide_eq_false c72
                      clear c72
                      simp only [Option.some.injEq, Prod.mk.injEq] at H
                      obtain ⟨rfl, rfl⟩ := H
                      go_wp2
                      go_ret2
                      exact ⟨by first | rfl | (simp; done) | (simp [*]; done), by repeat (first | exact Drawn0.refl _ | apply Drawn0.step)⟩
              · replace c71 := Bool.eq_false_iff.mpr c71
                subst c71
                have H1 : (some (0, 220)) = some (r1, r2) := by rw [if_neg (show ¬ (false = true) by decide)] at H; exact H
                clear H
                have H := H1
                clear H1
                simp only [Option.some.injEq, Prod.mk.injEq] at H
                obtain ⟨rfl, rfl⟩ := H
                go_wp2
                go_ret2
                exact ⟨by first | rfl | (simp; done) | (simp [*]; done), by repeat (first | exact Drawn0.refl _ | apply Drawn0.step)⟩


end

end Go.Proofs.YtaejogkinniakaaDoor.PEd
