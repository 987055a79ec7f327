/- Words and walks that the kit's print wrote for the law LinesPrint, cut to the reference's point and Print. -/
import Derived.Test.YtooehjbbphokbaaDoorLnQ
namespace Go.Proofs.YtooehjbbphokbaaDoor.PLinesPrint
set_option linter.unusedVariables false
set_option linter.unusedSimpArgs false
open Go.RowKit Go.Proofs.YtooehjbbphokbaaDoorW.PrintWords Go.Proofs.YtooehjbbphokbaaDoorW.PrintLast Go.Proofs.YtooehjbbphokbaaDoorW.PrintMore Go.Proofs.YtooehjbbphokbaaDoor.PLinesRead
section
attribute [local go_sem] max2_int min2_int max_two min_two max_three min_three max_four min_four
/-! ### rubricatorref02_point: function 56 -/
def rubricatorref02_point.l0 : Nat → Int → ByteArray → Option (ByteArray)
  | 0, _, _ => none
  | k + 1, x0, x3 => if x0 > 0 then (if 0 ≤ (Int.tmod x0 16) then (if (Int.tmod x0 16) ≤ (wrap64 ((Int.tmod x0 16) + 1)) then (if (wrap64 ((Int.tmod x0 16) + 1)) ≤ 16 then (if ((⟨#[48, 49, 50, 51, 52, 53, 54, 55, 56, 57, 65, 66, 67, 68, 69, 70]⟩ : ByteArray).extract ((Int.tmod x0 16) : Int).toNat ((wrap64 ((Int.tmod x0 16) + 1)) : Int).toNat).size + x3.size ≤ 9223372036854775807 then (rubricatorref02_point.l0 k (wrap64 (Int.tdiv x0 16)) (((⟨#[48, 49, 50, 51, 52, 53, 54, 55, 56, 57, 65, 66, 67, 68, 69, 70]⟩ : ByteArray).extract ((Int.tmod x0 16) : Int).toNat ((wrap64 ((Int.tmod x0 16) + 1)) : Int).toNat) ++ x3)) else (none)) else (none)) else (none)) else (none)) else (if (x3.size : Int) < 4 then (if 0 ≤ (Int.tmod x0 16) then (if (Int.tmod x0 16) ≤ (wrap64 ((Int.tmod x0 16) + 1)) then (if (wrap64 ((Int.tmod x0 16) + 1)) ≤ 16 then (if ((⟨#[48, 49, 50, 51, 52, 53, 54, 55, 56, 57, 65, 66, 67, 68, 69, 70]⟩ : ByteArray).extract ((Int.tmod x0 16) : Int).toNat ((wrap64 ((Int.tmod x0 16) + 1)) : Int).toNat).size + x3.size ≤ 9223372036854775807 then (rubricatorref02_point.l0 k (wrap64 (Int.tdiv x0 16)) (((⟨#[48, 49, 50, 51, 52, 53, 54, 55, 56, 57, 65, 66, 67, 68, 69, 70]⟩ : ByteArray).extract ((Int.tmod x0 16) : Int).toNat ((wrap64 ((Int.tmod x0 16) + 1)) : Int).toNat) ++ x3)) else (none)) else (none)) else (none)) else (none)) else (some x3))
def rubricatorref02_point.f (k : Nat) (a0 : Int) : Option (ByteArray) := rubricatorref02_point.l0 k a0 (⟨#[]⟩ : ByteArray)
theorem rubricatorref02_point.mono_l : ∀ k, (∀ y0 y1, LeO (rubricatorref02_point.l0 k y0 y1) (rubricatorref02_point.l0 (k + 1) y0 y1))
  | 0 => fun _ _ r h => by simp [rubricatorref02_point.l0] at h
  | k + 1 => by
    have ih0 := rubricatorref02_point.mono_l k
    · intro y0 y1
      unfold rubricatorref02_point.l0
      repeat' first
      | (with_reducible exact ih0 _ _)
      | (with_reducible exact LeO.refl _)
      | (with_reducible exact LeO.none _)
      | (with_reducible refine LeO.ite ?_ ?_)
      | (with_reducible refine LeO.bind ?_ (fun _ => ?_))
      | exact ih0 _ _
      | exact LeO.none _
      | refine LeO.ite ?_ ?_
      | refine LeO.bind ?_ (fun _ => ?_)
theorem rubricatorref02_point.mono : ∀ a0 k, LeO (rubricatorref02_point.f k a0) (rubricatorref02_point.f (k + 1) a0) := by
  intro a0 k
  have ih0 := rubricatorref02_point.mono_l k
  unfold rubricatorref02_point.f
  repeat' first
      | (with_reducible exact ih0 _ _)
      | (with_reducible exact LeO.refl _)
      | (with_reducible exact LeO.none _)
      | (with_reducible refine LeO.ite ?_ ?_)
      | (with_reducible refine LeO.bind ?_ (fun _ => ?_))
      | exact ih0 _ _
      | exact LeO.none _
      | refine LeO.ite ?_ ?_
      | refine LeO.bind ?_ (fun _ => ?_)
set_option maxHeartbeats 8000000 in
set_option maxRecDepth 100000 in
theorem rubricatorref02_point.calls (k : Nat) (a0 : Int) (r : ByteArray) (w : World) (h : rubricatorref02_point.f k a0 = some r) :
    Calls Tryd.prog 56 #[.int .i64 a0] w fun e w' => e = .returned (.string r) ∧ Drawn0 w w' := by
  have H : (rubricatorref02_point.l0 k a0 (⟨#[]⟩ : ByteArray)) = some r := h
  clear h
  have H' := Aside0.mk H
  clear H
  go_enter Tryd.func56, Tryd.ntmps56
  go_wp2
  go_loopg [0, 3] k (fun kq v0 v3 w' => ∃ (x0_1 : Int) (x3_1 : ByteArray), v0 = .int .i64 x0_1 ∧ v3 = .string x3_1 ∧ Aside0 (rubricatorref02_point.l0 kq x0_1 x3_1 = some r) ∧ Aside0 (kq ≤ k) ∧ Drawn0 w w')
  case atStart => exact ⟨(a0), ((⟨#[]⟩ : ByteArray)), (by first | rfl | (simp; done) | (simp [*]; done)), (by first | rfl | (simp; done) | (simp [*]; done)), H', ⟨Nat.le_refl _⟩, by repeat (first | exact Drawn0.refl _ | apply Drawn0.step)⟩
  case round =>
    clear H'
    obtain ⟨x0_1, x3_1, rfl, rfl, HA, HK1, ⟨m1, rfl⟩⟩ := hrel
    cases gk with
    | zero => exact absurd HA.out (by simp [rubricatorref02_point.l0])
    | succ k1 =>
      have H := HA.out
      clear HA
      simp only [rubricatorref02_point.l0] at H
      by_cases c2 : x0_1 > 0
      · rw [if_pos c2] at H
        have c2b0 : decide (0 < x0_1) = true := decide_eq_true c2
        clear c2
        obtain ⟨ji3, hji3⟩ : ∃ j_ : Int, (Int.tmod x0_1 16) = j_ := ⟨_, rfl⟩
        replace H : (if 0 ≤ (ji3) then (if (ji3) ≤ (wrap64 ((ji3) + 1)) then (if (wrap64 ((ji3) + 1)) ≤ 16 then (if ((⟨#[48, 49, 50, 51, 52, 53, 54, 55, 56, 57, 65, 66, 67, 68, 69, 70]⟩ : ByteArray).extract ((ji3) : Int).toNat ((wrap64 ((ji3) + 1)) : Int).toNat).size + x3_1.size ≤ 9223372036854775807 then (rubricatorref02_point.l0 k1 (wrap64 (Int.tdiv x0_1 16)) (((⟨#[48, 49, 50, 51, 52, 53, 54, 55, 56, 57, 65, 66, 67, 68, 69, 70]⟩ : ByteArray).extract ((ji3) : Int).toNat ((wrap64 ((ji3) + 1)) : Int).toNat) ++ x3_1)) else (none)) else (none)) else (none)) else (none)) = some r := by first | (rw [hji3] at H; exact H) | (simp only [hji3] at H ⊢; exact H)
        by_cases c4 : 0 ≤ (ji3)
        · rw [if_pos c4] at H
          have c4b0 := eq_true c4
          have c4b1 : decide (0 ≤ (ji3)) = true := decide_eq_true c4
          clear c4
          by_cases c5 : (ji3) ≤ (wrap64 ((ji3) + 1))
          · rw [if_pos c5] at H
            have c5b0 := eq_true c5
            have c5b1 : decide ((ji3) ≤ (wrap64 ((ji3) + 1))) = true := decide_eq_true c5
            by_cases c6 : (wrap64 ((ji3) + 1)) ≤ 16
            · rw [if_pos c6] at H
              have c6b0 := eq_true c6
              have c6b1 : decide ((wrap64 ((ji3) + 1)) ≤ 16) = true := decide_eq_true c6
              by_cases c7 : ((⟨#[48, 49, 50, 51, 52, 53, 54, 55, 56, 57, 65, 66, 67, 68, 69, 70]⟩ : ByteArray).extract ((ji3) : Int).toNat ((wrap64 ((ji3) + 1)) : Int).toNat).size + x3_1.size ≤ 9223372036854775807
              · rw [if_pos c7] at H
                have c7b0 := eq_true c7
                have c7b1 : decide (((⟨#[48, 49, 50, 51, 52, 53, 54, 55, 56, 57, 65, 66, 67, 68, 69, 70]⟩ : ByteArray).extract ((ji3) : Int).toNat ((wrap64 ((ji3) + 1)) : Int).toNat).size + x3_1.size ≤ 9223372036854775807) = true := decide_eq_true c7
                try have c7b2 : (9223372036854775807 < ((⟨#[48, 49, 50, 51, 52, 53, 54, 55, 56, 57, 65, 66, 67, 68, 69, 70]⟩ : ByteArray).extract ((ji3) : Int).toNat ((wrap64 ((ji3) + 1)) : Int).toNat).size + x3_1.size) = False := eq_false (Nat.not_lt.2 c7)
                have H' := Aside0.mk H
                clear H
                go_wp2
                go_roundg k1
                case measure => have := HK1.out; omega
                case rel => exact ⟨(wrap64 (Int.tdiv x0_1 16)), (((⟨#[48, 49, 50, 51, 52, 53, 54, 55, 56, 57, 65, 66, 67, 68, 69, 70]⟩ : ByteArray).extract ((ji3) : Int).toNat ((wrap64 ((ji3) + 1)) : Int).toNat) ++ x3_1), (by first | rfl | (simp; done) | (simp [*]; done)), (by first | rfl | (simp; done) | (simp only [← hji3] <;> (first | rfl | simp)) | (simp [*]; done)), H', ⟨by have := HK1.out; omega⟩, by repeat (first | exact Drawn0.refl _ | apply Drawn0.step)⟩
              · rw [if_neg c7] at H
                exact absurd H (by simp)
            · rw [if_neg c6] at H
              exact absurd H (by simp)
          · rw [if_neg c5] at H
            exact absurd H (by simp)
        · rw [if_neg c4] at H
          exact absurd H (by simp)
      · rw [if_neg c2] at H
        have c2b0 : decide (0 < x0_1) = false := decide_eq_false c2
        clear c2
        by_cases c8 : (x3_1.size : Int) < 4
        · rw [if_pos c8] at H
          have c8b0 : decide ((x3_1.size : Int) < 4) = true := decide_eq_true c8
          have c8b1 : decide (x3_1.size < 4) = true := decide_eq_true (by omega)
          clear c8
          obtain ⟨ji9, hji9⟩ : ∃ j_ : Int, (Int.tmod x0_1 16) = j_ := ⟨_, rfl⟩
          replace H : (if 0 ≤ (ji9) then (if (ji9) ≤ (wrap64 ((ji9) + 1)) then (if (wrap64 ((ji9) + 1)) ≤ 16 then (if ((⟨#[48, 49, 50, 51, 52, 53, 54, 55, 56, 57, 65, 66, 67, 68, 69, 70]⟩ : ByteArray).extract ((ji9) : Int).toNat ((wrap64 ((ji9) + 1)) : Int).toNat).size + x3_1.size ≤ 9223372036854775807 then (rubricatorref02_point.l0 k1 (wrap64 (Int.tdiv x0_1 16)) (((⟨#[48, 49, 50, 51, 52, 53, 54, 55, 56, 57, 65, 66, 67, 68, 69, 70]⟩ : ByteArray).extract ((ji9) : Int).toNat ((wrap64 ((ji9) + 1)) : Int).toNat) ++ x3_1)) else (none)) else (none)) else (none)) else (none)) = some r := by first | (rw [hji9] at H; exact H) | (simp only [hji9] at H ⊢; exact H)
          by_cases c10 : 0 ≤ (ji9)
          · rw [if_pos c10] at H
            have c10b0 := eq_true c10
            have c10b1 : decide (0 ≤ (ji9)) = true := decide_eq_true c10
            clear c10
            by_cases c11 : (ji9) ≤ (wrap64 ((ji9) + 1))
            · rw [if_pos c11] at H
              have c11b0 := eq_true c11
              have c11b1 : decide ((ji9) ≤ (wrap64 ((ji9) + 1))) = true := decide_eq_true c11
              by_cases c12 : (wrap64 ((ji9) + 1)) ≤ 16
              · rw [if_pos c12] at H
                have c12b0 := eq_true c12
                have c12b1 : decide ((wrap64 ((ji9) + 1)) ≤ 16) = true := decide_eq_true c12
                by_cases c13 : ((⟨#[48, 49, 50, 51, 52, 53, 54, 55, 56, 57, 65, 66, 67, 68, 69, 70]⟩ : ByteArray).extract ((ji9) : Int).toNat ((wrap64 ((ji9) + 1)) : Int).toNat).size + x3_1.size ≤ 9223372036854775807
                · rw [if_pos c13] at H
                  have c13b0 := eq_true c13
                  have c13b1 : decide (((⟨#[48, 49, 50, 51, 52, 53, 54, 55, 56, 57, 65, 66, 67, 68, 69, 70]⟩ : ByteArray).extract ((ji9) : Int).toNat ((wrap64 ((ji9) + 1)) : Int).toNat).size + x3_1.size ≤ 9223372036854775807) = true := decide_eq_true c13
                  try have c13b2 : (9223372036854775807 < ((⟨#[48, 49, 50, 51, 52, 53, 54, 55, 56, 57, 65, 66, 67, 68, 69, 70]⟩ : ByteArray).extract ((ji9) : Int).toNat ((wrap64 ((ji9) + 1)) : Int).toNat).size + x3_1.size) = False := eq_false (Nat.not_lt.2 c13)
                  have H' := Aside0.mk H
                  clear H
                  go_wp2
                  go_roundg k1
                  case measure => have := HK1.out; omega
                  case rel => exact ⟨(wrap64 (Int.tdiv x0_1 16)), (((⟨#[48, 49, 50, 51, 52, 53, 54, 55, 56, 57, 65, 66, 67, 68, 69, 70]⟩ : ByteArray).extract ((ji9) : Int).toNat ((wrap64 ((ji9) + 1)) : Int).toNat) ++ x3_1), (by first | rfl | (simp; done) | (simp [*]; done)), (by first | rfl | (simp; done) | (simp only [← hji9] <;> (first | rfl | simp)) | (simp [*]; done)), H', ⟨by have := HK1.out; omega⟩, by repeat (first | exact Drawn0.refl _ | apply Drawn0.step)⟩
                · rw [if_neg c13] at H
                  exact absurd H (by simp)
              · rw [if_neg c12] at H
                exact absurd H (by simp)
            · rw [if_neg c11] at H
              exact absurd H (by simp)
          · rw [if_neg c10] at H
            exact absurd H (by simp)
        · rw [if_neg c8] at H
          have c8b0 : decide ((x3_1.size : Int) < 4) = false := decide_eq_false c8
          have c8b1 : decide (x3_1.size < 4) = false := decide_eq_false (by omega)
          clear c8
          obtain rfl := Option.some.inj H
          go_wp2
          go_ret
          exact ⟨by first | rfl | (simp; done) | (simp [*]; done), by repeat (first | exact Drawn0.refl _ | apply Drawn0.step)⟩


end

section
attribute [local go_sem] max2_int min2_int max_two min_two max_three min_three max_four min_four
/-! ### rubricatorref02_Print: function 33 -/
mutual
def rubricatorref02_Print.l0 : Nat → ByteArray → List (S48) → Int → Int → Option (ByteArray × Int)
  | 0, _, _, _, _ => none
  | k + 1, x4, x10, x11, x12 => if x12 < x11 then (if 0 ≤ x12 then (if x12 < (x10.length : Int) then (if ((rd_T48 x10 x12).f0) < 0 then (rubricatorref02_Print.j1 k x4 x10 x11 x12 true ((rd_T48 x10 x12).f0) ((rd_T48 x10 x12).f1) ((rd_T48 x10 x12).f2)) else (if ((rd_T48 x10 x12).f1) < ((rd_T48 x10 x12).f0) then (rubricatorref02_Print.j1 k x4 x10 x11 x12 true ((rd_T48 x10 x12).f0) ((rd_T48 x10 x12).f1) ((rd_T48 x10 x12).f2)) else (if ((rd_T48 x10 x12).f1) > 1114111 then (rubricatorref02_Print.j1 k x4 x10 x11 x12 true ((rd_T48 x10 x12).f0) ((rd_T48 x10 x12).f1) ((rd_T48 x10 x12).f2)) else (rubricatorref02_Print.j1 k x4 x10 x11 x12 ((((rd_T48 x10 x12).f2).length : Int) == 0) ((rd_T48 x10 x12).f0) ((rd_T48 x10 x12).f1) ((rd_T48 x10 x12).f2))))) else (none)) else (none)) else (some (x4, 0))
def rubricatorref02_Print.j1 : Nat → ByteArray → List (S48) → Int → Int → Bool → Int → Int → List ByteArray → Option (ByteArray × Int)
  | 0, _, _, _, _, _, _, _, _ => none
  | k + 1, x4, x10, x11, x12, x36, x112000, x112001, x112002 => if x36 = true then (some ((⟨#[]⟩ : ByteArray), 1)) else ((rubricatorref02_point.f k x112000).bind fun t112 => (if x4.size + t112.size ≤ 9223372036854775807 then (if x112001 = x112000 then (rubricatorref02_Print.j2 k (x4 ++ t112) x10 x11 x12 x112000 x112001 x112002) else ((rubricatorref02_point.f k x112001).bind fun t113 => (if 2 + t113.size ≤ 9223372036854775807 then (if (x4 ++ t112).size + ((⟨#[46, 46]⟩ : ByteArray) ++ t113).size ≤ 9223372036854775807 then (rubricatorref02_Print.j2 k ((x4 ++ t112) ++ ((⟨#[46, 46]⟩ : ByteArray) ++ t113)) x10 x11 x12 x112000 x112001 x112002) else (none)) else (none)))) else (none)))
def rubricatorref02_Print.j2 : Nat → ByteArray → List (S48) → Int → Int → Int → Int → List ByteArray → Option (ByteArray × Int)
  | 0, _, _, _, _, _, _, _ => none
  | k + 1, x4, x10, x11, x12, x112000, x112001, x112002 => rubricatorref02_Print.l1 k x4 x10 x11 x12 x112002 (x112002.length : Int) 0
def rubricatorref02_Print.l1 : Nat → ByteArray → List (S48) → Int → Int → List ByteArray → Int → Int → Option (ByteArray × Int)
  | 0, _, _, _, _, _, _, _ => none
  | k + 1, x4, x10, x11, x12, x54, x55, x56 => if x56 < x55 then (if 0 ≤ x56 then (if x56 < (x54.length : Int) then ((rubricatorref02_trim.f k (rdOf ByteArray.empty x54 x56)).bind fun t115 => (if t115.toList = (rdOf ByteArray.empty x54 x56).toList then (rubricatorref02_Print.l2 k x4 (rdOf ByteArray.empty x54 x56) 0 x10 x11 x12 x54 x55 x56) else (some ((⟨#[]⟩ : ByteArray), 1)))) else (none)) else (none)) else (if x4.size + 1 ≤ 9223372036854775807 then (rubricatorref02_Print.l0 k (x4 ++ (⟨#[10]⟩ : ByteArray)) x10 x11 (wrap64 (x12 + 1))) else (none))
def rubricatorref02_Print.l2 : Nat → ByteArray → ByteArray → Int → List (S48) → Int → Int → List ByteArray → Int → Int → Option (ByteArray × Int)
  | 0, _, _, _, _, _, _, _, _, _ => none
  | k + 1, x4, x8, x9, x10, x11, x12, x54, x55, x56 => if x9 < (x8.size : Int) then (if 0 ≤ x9 then (if (bt x8 x9) = 59 then (some ((⟨#[]⟩ : ByteArray), 1)) else (if (bt x8 x9) = 35 then (some ((⟨#[]⟩ : ByteArray), 1)) else (if (bt x8 x9) = 10 then (some ((⟨#[]⟩ : ByteArray), 1)) else (rubricatorref02_Print.l2 k x4 x8 (wrap64 (x9 + 1)) x10 x11 x12 x54 x55 x56)))) else (none)) else (if 3 + x8.size ≤ 9223372036854775807 then (if x4.size + ((⟨#[32, 59, 32]⟩ : ByteArray) ++ x8).size ≤ 9223372036854775807 then (rubricatorref02_Print.l1 k (x4 ++ ((⟨#[32, 59, 32]⟩ : ByteArray) ++ x8)) x10 x11 x12 x54 x55 (wrap64 (x56 + 1))) else (none)) else (none))
end
def rubricatorref02_Print.f (k : Nat) (l0 : List (S48)) : Option (ByteArray × Int) := rubricatorref02_Print.l0 k (⟨#[]⟩ : ByteArray) l0 (l0.length : Int) 0
theorem rubricatorref02_Print.mono_l : ∀ k, (∀ y0 y1 y2 y3, LeO (rubricatorref02_Print.l0 k y0 y1 y2 y3) (rubricatorref02_Print.l0 (k + 1) y0 y1 y2 y3)) ∧ (∀ y0 y1 y2 y3 y4 y5 y6 y7, LeO (rubricatorref02_Print.j1 k y0 y1 y2 y3 y4 y5 y6 y7) (rubricatorref02_Print.j1 (k + 1) y0 y1 y2 y3 y4 y5 y6 y7)) ∧ (∀ y0 y1 y2 y3 y4 y5 y6, LeO (rubricatorref02_Print.j2 k y0 y1 y2 y3 y4 y5 y6) (rubricatorref02_Print.j2 (k + 1) y0 y1 y2 y3 y4 y5 y6)) ∧ (∀ y0 y1 y2 y3 y4 y5 y6, LeO (rubricatorref02_Print.l1 k y0 y1 y2 y3 y4 y5 y6) (rubricatorref02_Print.l1 (k + 1) y0 y1 y2 y3 y4 y5 y6)) ∧ (∀ y0 y1 y2 y3 y4 y5 y6 y7 y8, LeO (rubricatorref02_Print.l2 k y0 y1 y2 y3 y4 y5 y6 y7 y8) (rubricatorref02_Print.l2 (k + 1) y0 y1 y2 y3 y4 y5 y6 y7 y8))
  | 0 => ⟨fun _ _ _ _ r h => by simp [rubricatorref02_Print.l0] at h, fun _ _ _ _ _ _ _ _ r h => by simp [rubricatorref02_Print.j1] at h, fun _ _ _ _ _ _ _ r h => by simp [rubricatorref02_Print.j2] at h, fun _ _ _ _ _ _ _ r h => by simp [rubricatorref02_Print.l1] at h, fun _ _ _ _ _ _ _ _ _ r h => by simp [rubricatorref02_Print.l2] at h⟩
  | k + 1 => by
    obtain ⟨ih0, ih1, ih2, ih3, ih4⟩ := rubricatorref02_Print.mono_l k
    refine ⟨?_, ?_, ?_, ?_, ?_⟩
    · intro y0 y1 y2 y3
      unfold rubricatorref02_Print.l0
      repeat' first
      | (with_reducible exact ih0 _ _ _ _)
      | (with_reducible exact ih1 _ _ _ _ _ _ _ _)
      | (with_reducible exact ih2 _ _ _ _ _ _ _)
      | (with_reducible exact ih3 _ _ _ _ _ _ _)
      | (with_reducible exact ih4 _ _ _ _ _ _ _ _ _)
      | (with_reducible exact rubricatorref02_point.mono _ _)
      | (with_reducible exact rubricatorref02_trim.mono _ _)
      | (with_reducible exact LeO.refl _)
      | (with_reducible exact LeO.none _)
      | (with_reducible refine LeO.ite ?_ ?_)
      | (with_reducible refine LeO.bind ?_ (fun _ => ?_))
      | exact ih0 _ _ _ _
      | exact ih1 _ _ _ _ _ _ _ _
      | exact ih2 _ _ _ _ _ _ _
      | exact ih3 _ _ _ _ _ _ _
      | exact ih4 _ _ _ _ _ _ _ _ _
      | exact rubricatorref02_point.mono _ _
      | exact rubricatorref02_trim.mono _ _
      | exact LeO.none _
      | refine LeO.ite ?_ ?_
      | refine LeO.bind ?_ (fun _ => ?_)
    · intro y0 y1 y2 y3 y4 y5 y6 y7
      unfold rubricatorref02_Print.j1
      repeat' first
      | (with_reducible exact ih0 _ _ _ _)
      | (with_reducible exact ih1 _ _ _ _ _ _ _ _)
      | (with_reducible exact ih2 _ _ _ _ _ _ _)
      | (with_reducible exact ih3 _ _ _ _ _ _ _)
      | (with_reducible exact ih4 _ _ _ _ _ _ _ _ _)
      | (with_reducible exact rubricatorref02_point.mono _ _)
      | (with_reducible exact rubricatorref02_trim.mono _ _)
      | (with_reducible exact LeO.refl _)
      | (with_reducible exact LeO.none _)
      | (with_reducible refine LeO.ite ?_ ?_)
      | (with_reducible refine LeO.bind ?_ (fun _ => ?_))
      | exact ih0 _ _ _ _
      | exact ih1 _ _ _ _ _ _ _ _
      | exact ih2 _ _ _ _ _ _ _
      | exact ih3 _ _ _ _ _ _ _
      | exact ih4 _ _ _ _ _ _ _ _ _
      | exact rubricatorref02_point.mono _ _
      | exact rubricatorref02_trim.mono _ _
      | exact LeO.none _
      | refine LeO.ite ?_ ?_
      | refine LeO.bind ?_ (fun _ => ?_)
    · intro y0 y1 y2 y3 y4 y5 y6
      unfold rubricatorref02_Print.j2
      repeat' first
      | (with_reducible exact ih0 _ _ _ _)
      | (with_reducible exact ih1 _ _ _ _ _ _ _ _)
      | (with_reducible exact ih2 _ _ _ _ _ _ _)
      | (with_reducible exact ih3 _ _ _ _ _ _ _)
      | (with_reducible exact ih4 _ _ _ _ _ _ _ _ _)
      | (with_reducible exact rubricatorref02_point.mono _ _)
      | (with_reducible exact rubricatorref02_trim.mono _ _)
      | (with_reducible exact LeO.refl _)
      | (with_reducible exact LeO.none _)
      | (with_reducible refine LeO.ite ?_ ?_)
      | (with_reducible refine LeO.bind ?_ (fun _ => ?_))
      | exact ih0 _ _ _ _
      | exact ih1 _ _ _ _ _ _ _ _
      | exact ih2 _ _ _ _ _ _ _
      | exact ih3 _ _ _ _ _ _ _
      | exact ih4 _ _ _ _ _ _ _ _ _
      | exact rubricatorref02_point.mono _ _
      | exact rubricatorref02_trim.mono _ _
      | exact LeO.none _
      | refine LeO.ite ?_ ?_
      | refine LeO.bind ?_ (fun _ => ?_)
    · intro y0 y1 y2 y3 y4 y5 y6
      unfold rubricatorref02_Print.l1
      repeat' first
      | (with_reducible exact ih0 _ _ _ _)
      | (with_reducible exact ih1 _ _ _ _ _ _ _ _)
      | (with_reducible exact ih2 _ _ _ _ _ _ _)
      | (with_reducible exact ih3 _ _ _ _ _ _ _)
      | (with_reducible exact ih4 _ _ _ _ _ _ _ _ _)
      | (with_reducible exact rubricatorref02_point.mono _ _)
      | (with_reducible exact rubricatorref02_trim.mono _ _)
      | (with_reducible exact LeO.refl _)
      | (with_reducible exact LeO.none _)
      | (with_reducible refine LeO.ite ?_ ?_)
      | (with_reducible refine LeO.bind ?_ (fun _ => ?_))
      | exact ih0 _ _ _ _
      | exact ih1 _ _ _ _ _ _ _ _
      | exact ih2 _ _ _ _ _ _ _
      | exact ih3 _ _ _ _ _ _ _
      | exact ih4 _ _ _ _ _ _ _ _ _
      | exact rubricatorref02_point.mono _ _
      | exact rubricatorref02_trim.mono _ _
      | exact LeO.none _
      | refine LeO.ite ?_ ?_
      | refine LeO.bind ?_ (fun _ => ?_)
    · intro y0 y1 y2 y3 y4 y5 y6 y7 y8
      unfold rubricatorref02_Print.l2
      repeat' first
      | (with_reducible exact ih0 _ _ _ _)
      | (with_reducible exact ih1 _ _ _ _ _ _ _ _)
      | (with_reducible exact ih2 _ _ _ _ _ _ _)
      | (with_reducible exact ih3 _ _ _ _ _ _ _)
      | (with_reducible exact ih4 _ _ _ _ _ _ _ _ _)
      | (with_reducible exact rubricatorref02_point.mono _ _)
      | (with_reducible exact rubricatorref02_trim.mono _ _)
      | (with_reducible exact LeO.refl _)
      | (with_reducible exact LeO.none _)
      | (with_reducible refine LeO.ite ?_ ?_)
      | (with_reducible refine LeO.bind ?_ (fun _ => ?_))
      | exact ih0 _ _ _ _
      | exact ih1 _ _ _ _ _ _ _ _
      | exact ih2 _ _ _ _ _ _ _
      | exact ih3 _ _ _ _ _ _ _
      | exact ih4 _ _ _ _ _ _ _ _ _
      | exact rubricatorref02_point.mono _ _
      | exact rubricatorref02_trim.mono _ _
      | exact LeO.none _
      | refine LeO.ite ?_ ?_
      | refine LeO.bind ?_ (fun _ => ?_)
theorem rubricatorref02_Print.mono : ∀ a0 k, LeO (rubricatorref02_Print.f k a0) (rubricatorref02_Print.f (k + 1) a0) := by
  intro a0 k
  obtain ⟨ih0, ih1, ih2, ih3, ih4⟩ := rubricatorref02_Print.mono_l k
  unfold rubricatorref02_Print.f
  repeat' first
      | (with_reducible exact ih0 _ _ _ _)
      | (with_reducible exact ih1 _ _ _ _ _ _ _ _)
      | (with_reducible exact ih2 _ _ _ _ _ _ _)
      | (with_reducible exact ih3 _ _ _ _ _ _ _)
      | (with_reducible exact ih4 _ _ _ _ _ _ _ _ _)
      | (with_reducible exact rubricatorref02_point.mono _ _)
      | (with_reducible exact rubricatorref02_trim.mono _ _)
      | (with_reducible exact LeO.refl _)
      | (with_reducible exact LeO.none _)
      | (with_reducible refine LeO.ite ?_ ?_)
      | (with_reducible refine LeO.bind ?_ (fun _ => ?_))
      | exact ih0 _ _ _ _
      | exact ih1 _ _ _ _ _ _ _ _
      | exact ih2 _ _ _ _ _ _ _
      | exact ih3 _ _ _ _ _ _ _
      | exact ih4 _ _ _ _ _ _ _ _ _
      | exact rubricatorref02_point.mono _ _
      | exact rubricatorref02_trim.mono _ _
      | exact LeO.none _
      | refine LeO.ite ?_ ?_
      | refine LeO.bind ?_ (fun _ => ?_)
set_option maxHeartbeats 8000000 in
set_option maxRecDepth 100000 in
theorem rubricatorref02_Print.calls (k : Nat) (A0 : Option Addr) (c0 : Nat) (l0 : List (S48)) (r1 : ByteArray) (r2 : Int) (w : World) (hr0 : Kd.C k48 w A0 l0.length l0) (hc0 : l0.length ≤ c0) (h : rubricatorref02_Print.f k l0 = some (r1, r2)) :
    Calls Tryd.prog 33 #[.slice A0 l0.length c0] w fun e w' => e = .returned (.tuple #[.string r1, .int .i64 r2]) ∧ Below w.heap.size w w' := by
  have hu48 := Tryd.underlying48
  have HR0 := Aside0.mk hr0
  have HC0 := Aside0.mk hc0
  clear hr0 hc0
  have HB := Aside0.mk (Below.refl w.heap.size w)
  have H : (rubricatorref02_Print.l0 k (⟨#[]⟩ : ByteArray) l0 (l0.length : Int) 0) = some (r1, r2) := h
  clear h
  have H' := Aside0.mk H
  clear H
  go_enter Tryd.func33, Tryd.ntmps33
  go_wp2
  go_loopg [4, 12] k (fun kq v4 v12 w' => ∃ (x4_1 : ByteArray) (x12_1 : Int), v4 = .string x4_1 ∧ v12 = .int .i64 x12_1 ∧ Aside0 (rubricatorref02_Print.l0 kq x4_1 l0 (l0.length : Int) x12_1 = some (r1, r2)) ∧ Aside0 (kq ≤ k) ∧ Aside0 (Below w.heap.size w w'))
  case atStart => exact ⟨((⟨#[]⟩ : ByteArray)), (0), (by first | rfl | (simp; done) | (simp [*]; done)), (by first | rfl | (simp; done) | (simp [*]; done)), H', ⟨Nat.le_refl _⟩, ⟨by repeat (first | (with_reducible first | exact HB.out | apply below_alloc | apply pw_below_drewN | apply below_drew1) | exact HB.out)⟩⟩
  case round =>
    clear H'
    obtain ⟨x4_1, x12_1, rfl, rfl, HA, HK1, HB⟩ := hrel
    cases gk with
    | zero => exact absurd HA.out (by simp [rubricatorref02_Print.l0])
    | succ k1 =>
      have H := HA.out
      clear HA
      simp only [rubricatorref02_Print.l0] at H
      by_cases c2 : x12_1 < (l0.length : Int)
      · rw [if_pos c2] at H
        have c2b0 : decide (x12_1 < (l0.length : Int)) = true := decide_eq_true c2
        clear c2
        by_cases c3 : 0 ≤ x12_1
        · rw [if_pos c3] at H
          have c3b0 : decide (0 ≤ x12_1) = true := decide_eq_true c3
          clear c3
          by_cases c4 : x12_1 < (l0.length : Int)
          · rw [if_pos c4] at H
            have c4b0 : decide (x12_1 < (l0.length : Int)) = true := decide_eq_true c4
            clear c4
            have HC5 := Aside0.mk H
            clear H
            have p110 : 0 ≤ (x12_1 : Int) := of_decide_eq_true (by first | (with_reducible assumption) | assumption)
            have q110 : x12_1 < (l0.length : Int) := of_decide_eq_true (by first | (with_reducible assumption) | assumption)
            obtain ⟨ad110, A110_2, c110_2, e110, hx110_0, hx110_1, hx110_2, hl110_2, hi110_2⟩ := at_T48 HR0.out x12_1 p110 q110
            cases e110
            replace hx110_0 := (HB.out.cell (World.block_lt_of_cell? w _ hx110_0)).trans hx110_0
            replace hx110_1 := (HB.out.cell (World.block_lt_of_cell? w _ hx110_1)).trans hx110_1
            replace hx110_2 := (HB.out.cell (World.block_lt_of_cell? w _ hx110_2)).trans hx110_2
            have HR110_2 := Aside0.mk hi110_2
            have HC110_2 := Aside0.mk hl110_2
            clear hi110_2 hl110_2
            replace p110 := eq_true p110
            replace q110 := eq_true q110
            go_upto_region 5 with (first | ((with_reducible refine gate_dst (N := 6) rfl ?_); (try (refine gate_guard (by rfl) ?_; dsimp only)); refine box_event ?hg (N := 6) ?hd (cs := #[.int .i64 0, .int .i64 0, .slice none 0 0]) (t := 48) ?hr ?_; (case hd => rfl); (case hg => rfl); (case hr => first | (go_simp; done) | (go_simp; rfl)); intro gb111 hg w6 hbox hb; have n0_ := Aside0.mk (below_step (by repeat (first | (with_reducible first | exact HB.out | apply below_alloc | apply pw_below_drewN | apply below_drew1) | exact HB.out)) hb); have n1_ := Aside0.mk (hbox); have n2_ := Aside0.mk ((by rw [hg]; exact (below_size (by repeat (first | (with_reducible first | exact HB.out | apply below_alloc | apply pw_below_drewN | apply below_drew1) | exact HB.out))) : w.heap.size ≤ gb111)); have n3_ := Aside0.mk ((by rw [hg]; exact (below_size (by repeat (first | (with_reducible first | exact HB.out | apply below_alloc | apply pw_below_drewN | apply below_drew1) | exact HB.out))) : w.heap.size ≤ gb111)); clear HB; have HB := n0_; have BK111 := n1_; have GW111 := n2_; have GE111 := n3_; clear n0_ n1_ n2_ n3_; clear hb hbox hg; have hcz7_0 : w6.cell? ⟨gb111, 0, none⟩ = some (.int .i64 0) := (blk_cell BK111.out 0).trans rfl; have hcz7_1 : w6.cell? ⟨gb111, 1, none⟩ = some (.int .i64 0) := (blk_cell BK111.out 1).trans rfl; have hcz7_2 : w6.cell? ⟨gb111, 2, none⟩ = some (.slice none 0 0) := (blk_cell BK111.out 2).trans rfl; have hfz7_0 := blk_frozen BK111.out 0; have hfz7_1 := blk_frozen BK111.out 1; have hfz7_2 := blk_frozen BK111.out 2))
            (try simp only [Act.put, List.setIfInBounds_toArray, List.set_cons_zero, List.set_cons_succ])
            go_cut [36] (fun v36 wc => ∃ (kq : Nat) (x36_4 : Bool), v36 = .bool x36_4 ∧ Aside0 (rubricatorref02_Print.j1 kq x4_1 l0 (l0.length : Int) x12_1 x36_4 ((rd_T48 l0 x12_1).f0) ((rd_T48 l0 x12_1).f1) ((rd_T48 l0 x12_1).f2) = some (r1, r2)) ∧ Aside0 (kq ≤ k1) ∧ Aside0 (wc.heap[gb111]? = some (.cells #[.int .i64 ((rd_T48 l0 x12_1).f0), .int .i64 ((rd_T48 l0 x12_1).f1), (.slice A110_2 ((rd_T48 l0 x12_1).f2).length c110_2)] 48 (0, 0))) ∧ Aside0 (Below w.heap.size w wc))
            case first =>
              have H := HC5.out
              clear HC5
              by_cases c8 : ((rd_T48 l0 x12_1).f0) < 0
              · rw [if_pos c8] at H
                have c8b0 : decide (((rd_T48 l0 x12_1).f0) < 0) = true := decide_eq_true c8
                clear c8
                (first | rw [c8b0] | (simp only [i64_w, i32_w]; rw [c8b0]) | skip)
                have H' := Aside0.mk H
                clear H
                have hcz9_0 : w6.cell? ⟨gb111, 0, none⟩ = some (.int .i64 0) := (blk_cell BK111.out 0).trans rfl
                have hcz9_1 : w6.cell? ⟨gb111, 1, none⟩ = some (.int .i64 0) := (blk_cell BK111.out 1).trans rfl
                have hcz9_2 : w6.cell? ⟨gb111, 2, none⟩ = some (.slice none 0 0) := (blk_cell BK111.out 2).trans rfl
                have hfz9_0 := blk_frozen BK111.out 0
                have hfz9_1 := blk_frozen BK111.out 1
                have hfz9_2 := blk_frozen BK111.out 2
                go_wp2
                go_meet
                case rel => exact ⟨_, (true), (by first | rfl | (simp; done) | (simp [*]; done)), H', ⟨by have := HK1.out; first | omega | exact Nat.le_refl _⟩, ⟨by (with_reducible repeat (first | refine blk_drewN ?_ _ | refine blk_drew ?_ | refine blk_alloc ?_ _)); refine blk_put (cs := #[.int .i64 ((rd_T48 l0 x12_1).f0), .int .i64 ((rd_T48 l0 x12_1).f1), .slice none 0 0]) ?_ 2 _ rfl; (with_reducible repeat (first | refine blk_drewN ?_ _ | refine blk_drew ?_ | refine blk_alloc ?_ _)); refine blk_put (cs := #[.int .i64 ((rd_T48 l0 x12_1).f0), .int .i64 0, .slice none 0 0]) ?_ 1 _ rfl; (with_reducible repeat (first | refine blk_drewN ?_ _ | refine blk_drew ?_ | refine blk_alloc ?_ _)); refine blk_put (cs := #[.int .i64 0, .int .i64 0, .slice none 0 0]) ?_ 0 _ rfl; (with_reducible repeat (first | refine blk_drewN ?_ _ | refine blk_drew ?_ | refine blk_alloc ?_ _)); exact BK111.out⟩, ⟨by repeat (first | (with_reducible first | exact HB.out | apply below_alloc | apply pw_below_drewN | apply below_drew1 | refine below_set ?_ GE111.out) | exact HB.out)⟩⟩
              · rw [if_neg c8] at H
                have c8b0 : decide (((rd_T48 l0 x12_1).f0) < 0) = false := decide_eq_false c8
                clear c8
                (first | rw [c8b0] | (simp only [i64_w, i32_w]; rw [c8b0]) | skip)
                by_cases c10 : ((rd_T48 l0 x12_1).f1) < ((rd_T48 l0 x12_1).f0)
                · rw [if_pos c10] at H
                  have c10b0 : decide (((rd_T48 l0 x12_1).f1) < ((rd_T48 l0 x12_1).f0)) = true := decide_eq_true c10
                  clear c10
                  have H' := Aside0.mk H
                  clear H
                  have hcz11_0 : w6.cell? ⟨gb111, 0, none⟩ = some (.int .i64 0) := (blk_cell BK111.out 0).trans rfl
                  have hcz11_1 : w6.cell? ⟨gb111, 1, none⟩ = some (.int .i64 0) := (blk_cell BK111.out 1).trans rfl
                  have hcz11_2 : w6.cell? ⟨gb111, 2, none⟩ = some (.slice none 0 0) := (blk_cell BK111.out 2).trans rfl
                  have hfz11_0 := blk_frozen BK111.out 0
                  have hfz11_1 := blk_frozen BK111.out 1
                  have hfz11_2 := blk_frozen BK111.out 2
                  go_wp2
                  go_meet
                  case rel => exact ⟨_, (true), (by first | rfl | (simp; done) | (simp [*]; done)), H', ⟨by have := HK1.out; first | omega | exact Nat.le_refl _⟩, ⟨by (with_reducible repeat (first | refine blk_drewN ?_ _ | refine blk_drew ?_ | refine blk_alloc ?_ _)); refine blk_put (cs := #[.int .i64 ((rd_T48 l0 x12_1).f0), .int .i64 ((rd_T48 l0 x12_1).f1), .slice none 0 0]) ?_ 2 _ rfl; (with_reducible repeat (first | refine blk_drewN ?_ _ | refine blk_drew ?_ | refine blk_alloc ?_ _)); refine blk_put (cs := #[.int .i64 ((rd_T48 l0 x12_1).f0), .int .i64 0, .slice none 0 0]) ?_ 1 _ rfl; (with_reducible repeat (first | refine blk_drewN ?_ _ | refine blk_drew ?_ | refine blk_alloc ?_ _)); refine blk_put (cs := #[.int .i64 0, .int .i64 0, .slice none 0 0]) ?_ 0 _ rfl; (with_reducible repeat (first | refine blk_drewN ?_ _ | refine blk_drew ?_ | refine blk_alloc ?_ _)); exact BK111.out⟩, ⟨by repeat (first | (with_reducible first | exact HB.out | apply below_alloc | apply pw_below_drewN | apply below_drew1 | refine below_set ?_ GE111.out) | exact HB.out)⟩⟩
                · rw [if_neg c10] at H
                  have c10b0 : decide (((rd_T48 l0 x12_1).f1) < ((rd_T48 l0 x12_1).f0)) = false := decide_eq_false c10
                  clear c10
                  by_cases c12 : ((rd_T48 l0 x12_1).f1) > 1114111
                  · rw [if_pos c12] at H
                    have c12b0 : decide (1114111 < ((rd_T48 l0 x12_1).f1)) = true := decide_eq_true c12
                    clear c12
                    have H' := Aside0.mk H
                    clear H
                    have hcz13_0 : w6.cell? ⟨gb111, 0, none⟩ = some (.int .i64 0) := (blk_cell BK111.out 0).trans rfl
                    have hcz13_1 : w6.cell? ⟨gb111, 1, none⟩ = some (.int .i64 0) := (blk_cell BK111.out 1).trans rfl
                    have hcz13_2 : w6.cell? ⟨gb111, 2, none⟩ = some (.slice none 0 0) := (blk_cell BK111.out 2).trans rfl
                    have hfz13_0 := blk_frozen BK111.out 0
                    have hfz13_1 := blk_frozen BK111.out 1
                    have hfz13_2 := blk_frozen BK111.out 2
                    go_wp2
                    go_meet
                    case rel => exact ⟨_, (true), (by first | rfl | (simp; done) | (simp [*]; done)), H', ⟨by have := HK1.out; first | omega | exact Nat.le_refl _⟩, ⟨by (with_reducible repeat (first | refine blk_drewN ?_ _ | refine blk_drew ?_ | refine blk_alloc ?_ _)); refine blk_put (cs := #[.int .i64 ((rd_T48 l0 x12_1).f0), .int .i64 ((rd_T48 l0 x12_1).f1), .slice none 0 0]) ?_ 2 _ rfl; (with_reducible repeat (first | refine blk_drewN ?_ _ | refine blk_drew ?_ | refine blk_alloc ?_ _)); refine blk_put (cs := #[.int .i64 ((rd_T48 l0 x12_1).f0), .int .i64 0, .slice none 0 0]) ?_ 1 _ rfl; (with_reducible repeat (first | refine blk_drewN ?_ _ | refine blk_drew ?_ | refine blk_alloc ?_ _)); refine blk_put (cs := #[.int .i64 0, .int .i64 0, .slice none 0 0]) ?_ 0 _ rfl; (with_reducible repeat (first | refine blk_drewN ?_ _ | refine blk_drew ?_ | refine blk_alloc ?_ _)); exact BK111.out⟩, ⟨by repeat (first | (with_reducible first | exact HB.out | apply below_alloc | apply pw_below_drewN | apply below_drew1 | refine below_set ?_ GE111.out) | exact HB.out)⟩⟩
                  · rw [if_neg c12] at H
                    have c12b0 : decide (1114111 < ((rd_T48 l0 x12_1).f1)) = false := decide_eq_false c12
                    clear c12
                    have H' := Aside0.mk H
                    clear H
                    have hcz14_0 : w6.cell? ⟨gb111, 0, none⟩ = some (.int .i64 0) := (blk_cell BK111.out 0).trans rfl
                    have hcz14_1 : w6.cell? ⟨gb111, 1, none⟩ = some (.int .i64 0) := (blk_cell BK111.out 1).trans rfl
                    have hcz14_2 : w6.cell? ⟨gb111, 2, none⟩ = some (.slice none 0 0) := (blk_cell BK111.out 2).trans rfl
                    have hfz14_0 := blk_frozen BK111.out 0
                    have hfz14_1 := blk_frozen BK111.out 1
                    have hfz14_2 := blk_frozen BK111.out 2
                    go_wp2
                    go_meet
                    case rel => exact ⟨_, (((((rd_T48 l0 x12_1).f2).length : Int) == 0)), (by first | rfl | (simp; done) | (simp [*]; done)), H', ⟨by have := HK1.out; first | omega | exact Nat.le_refl _⟩, ⟨by (with_reducible repeat (first | refine blk_drewN ?_ _ | refine blk_drew ?_ | refine blk_alloc ?_ _)); refine blk_put (cs := #[.int .i64 ((rd_T48 l0 x12_1).f0), .int .i64 ((rd_T48 l0 x12_1).f1), .slice none 0 0]) ?_ 2 _ rfl; (with_reducible repeat (first | refine blk_drewN ?_ _ | refine blk_drew ?_ | refine blk_alloc ?_ _)); refine blk_put (cs := #[.int .i64 ((rd_T48 l0 x12_1).f0), .int .i64 0, .slice none 0 0]) ?_ 1 _ rfl; (with_reducible repeat (first | refine blk_drewN ?_ _ | refine blk_drew ?_ | refine blk_alloc ?_ _)); refine blk_put (cs := #[.int .i64 0, .int .i64 0, .slice none 0 0]) ?_ 0 _ rfl; (with_reducible repeat (first | refine blk_drewN ?_ _ | refine blk_drew ?_ | refine blk_alloc ?_ _)); exact BK111.out⟩, ⟨by repeat (first | (with_reducible first | exact HB.out | apply below_alloc | apply pw_below_drewN | apply below_drew1 | refine below_set ?_ GE111.out) | exact HB.out)⟩⟩
            case rest =>
              clear HC5
              try clear c1
              try clear p1
              try clear q1
              try clear hx1
              try clear c2
              try clear c2b0
              try clear p2
              try clear c3
              try clear c3b0
              try clear c4
              try clear c4b0
              try clear c8
              try clear c8b0
              try clear c10
              try clear c10b0
              try clear c11
              try clear p11
              try clear q11
              try clear hx11
              try clear c12
              try clear c12b0
              try clear hcz11_0
              try clear hcz11_1
              try clear hcz11_2
              try clear hcz13_0
              try clear hcz13_1
              try clear hcz13_2
              try clear hcz14_0
              try clear hcz14_1
              try clear hcz14_2
              try clear hcz7_0
              try clear hcz7_1
              try clear hcz7_2
              try clear hcz9_0
              try clear hcz9_1
              try clear hcz9_2
              try clear hfz11_0
              try clear hfz11_1
              try clear hfz11_2
              try clear hfz13_0
              try clear hfz13_1
              try clear hfz13_2
              try clear hfz14_0
              try clear hfz14_1
              try clear hfz14_2
              try clear hfz7_0
              try clear hfz7_1
              try clear hfz7_2
              try clear hfz9_0
              try clear hfz9_1
              try clear hfz9_2
              try clear hx110_0
              try clear hx110_1
              try clear hx110_2
              try clear p110
              try clear q110
              obtain ⟨kq, x36_4, rfl, HA, HJ4, BK111, HB⟩ := hcut
              cases kq with
              | zero => exact absurd HA.out (by simp [rubricatorref02_Print.j1])
              | succ kj4 =>
                have H := HA.out
                clear HA
                simp only [rubricatorref02_Print.j1] at H
                by_cases c15 : x36_4 = true
                · subst c15
                  have H1 : (some ((⟨#[]⟩ : ByteArray), 1)) = some (r1, r2) := by rw [if_pos rfl] at H; exact H
                  clear H
                  have H := H1
                  clear H1
                  simp only [Option.some.injEq, Prod.mk.injEq] at H
                  obtain ⟨rfl, rfl⟩ := H
                  go_wp2
                  go_ret2
                  exact ⟨by first | rfl | (simp [errW_none, errW_some] <;> rfl) | (simp [*, errW_none, errW_some] <;> rfl), by repeat (first | (with_reducible first | exact HB.out | apply below_alloc | apply pw_below_drewN | apply below_drew1 | refine below_set ?_ GE111.out) | exact HB.out)⟩
                · replace c15 := Bool.eq_false_iff.mpr c15
                  subst c15
                  have H1 : ((rubricatorref02_point.f kj4 ((rd_T48 l0 x12_1).f0)).bind fun t112 => (if x4_1.size + t112.size ≤ 9223372036854775807 then (if ((rd_T48 l0 x12_1).f1) = ((rd_T48 l0 x12_1).f0) then (rubricatorref02_Print.j2 kj4 (x4_1 ++ t112) l0 (l0.length : Int) x12_1 ((rd_T48 l0 x12_1).f0) ((rd_T48 l0 x12_1).f1) ((rd_T48 l0 x12_1).f2)) else ((rubricatorref02_point.f kj4 ((rd_T48 l0 x12_1).f1)).bind fun t113 => (if 2 + t113.size ≤ 9223372036854775807 then (if (x4_1 ++ t112).size + ((⟨#[46, 46]⟩ : ByteArray) ++ t113).size ≤ 9223372036854775807 then (rubricatorref02_Print.j2 kj4 ((x4_1 ++ t112) ++ ((⟨#[46, 46]⟩ : ByteArray) ++ t113)) l0 (l0.length : Int) x12_1 ((rd_T48 l0 x12_1).f0) ((rd_T48 l0 x12_1).f1) ((rd_T48 l0 x12_1).f2)) else (none)) else (none)))) else (none))) = some (r1, r2) := by rw [if_neg (show ¬ (false = true) by decide)] at H; exact H
                  clear H
                  have H := H1
                  clear H1
                  replace H := Option.bind_eq_some_iff.mp H
                  obtain ⟨t112, A160, H⟩ := H
                  replace H : (if x4_1.size + t112.size ≤ 9223372036854775807 then (if ((rd_T48 l0 x12_1).f1) = ((rd_T48 l0 x12_1).f0) then (rubricatorref02_Print.j2 kj4 (x4_1 ++ t112) l0 (l0.length : Int) x12_1 ((rd_T48 l0 x12_1).f0) ((rd_T48 l0 x12_1).f1) ((rd_T48 l0 x12_1).f2)) else ((rubricatorref02_point.f kj4 ((rd_T48 l0 x12_1).f1)).bind fun t113 => (if 2 + t113.size ≤ 9223372036854775807 then (if (x4_1 ++ t112).size + ((⟨#[46, 46]⟩ : ByteArray) ++ t113).size ≤ 9223372036854775807 then (rubricatorref02_Print.j2 kj4 ((x4_1 ++ t112) ++ ((⟨#[46, 46]⟩ : ByteArray) ++ t113)) l0 (l0.length : Int) x12_1 ((rd_T48 l0 x12_1).f0) ((rd_T48 l0 x12_1).f1) ((rd_T48 l0 x12_1).f2)) else (none)) else (none)))) else (none)) = some (r1, r2) := H
                  have A16 := Aside0.mk A160
                  clear A160
                  by_cases c17 : x4_1.size + t112.size ≤ 9223372036854775807
                  · rw [if_pos c17] at H
                    have c17b0 := eq_true c17
                    have c17b1 : decide (x4_1.size + t112.size ≤ 9223372036854775807) = true := decide_eq_true c17
                    try have c17b2 : (9223372036854775807 < x4_1.size + t112.size) = False := eq_false (Nat.not_lt.2 c17)
                    have HC18 := Aside0.mk H
                    clear H
                    have hcz19_0 : wc.cell? ⟨gb111, 0, none⟩ = some (.int .i64 ((rd_T48 l0 x12_1).f0)) := (blk_cell BK111.out 0).trans rfl
                    have hcz19_1 : wc.cell? ⟨gb111, 1, none⟩ = some (.int .i64 ((rd_T48 l0 x12_1).f1)) := (blk_cell BK111.out 1).trans rfl
                    have hcz19_2 : wc.cell? ⟨gb111, 2, none⟩ = some (.slice A110_2 ((rd_T48 l0 x12_1).f2).length c110_2) := (blk_cell BK111.out 2).trans rfl
                    have hfz19_0 := blk_frozen BK111.out 0
                    have hfz19_1 := blk_frozen BK111.out 1
                    have hfz19_2 := blk_frozen BK111.out 2
                    go_upto_if 46 with (first | ((with_reducible refine gate_callee (f := 56) rfl ?_); refine goesL_ (some 40) rfl rfl Tryd.func56 (by kernel_rfl) rfl #[.int .i64 ((rd_T48 l0 x12_1).f0)] rfl (by (try simp only [List.map_toArray, List.map_cons, List.map_nil]); first | done | rfl | (simp only [List.length_drop, List.length_take]; rfl)) ?_; (with_reducible refine (rubricatorref02_point.calls kj4 ((rd_T48 l0 x12_1).f0) t112 _ A16.out).mono ?_); rintro e w' ⟨rfl, ⟨nd, rfl⟩⟩; refine ⟨_, rfl, ?_⟩))
                    (try simp only [Act.put, List.setIfInBounds_toArray, List.set_cons_zero, List.set_cons_succ])
                    go_cut [4] (fun v4 wc => ∃ (kq : Nat) (x4_17 : ByteArray), v4 = .string x4_17 ∧ Aside0 (rubricatorref02_Print.j2 kq x4_17 l0 (l0.length : Int) x12_1 ((rd_T48 l0 x12_1).f0) ((rd_T48 l0 x12_1).f1) ((rd_T48 l0 x12_1).f2) = some (r1, r2)) ∧ Aside0 (kq ≤ kj4) ∧ Aside0 (wc.heap[gb111]? = some (.cells #[.int .i64 ((rd_T48 l0 x12_1).f0), .int .i64 ((rd_T48 l0 x12_1).f1), (.slice A110_2 ((rd_T48 l0 x12_1).f2).length c110_2)] 48 (0, 0))) ∧ Aside0 (Below w.heap.size w wc))
                    case first =>
                      have H := HC18.out
                      clear HC18
                      by_cases c20 : ((rd_T48 l0 x12_1).f1) = ((rd_T48 l0 x12_1).f0)
                      · rw [if_pos c20] at H
                        have c20b0 : (((rd_T48 l0 x12_1).f1) == ((rd_T48 l0 x12_1).f0)) = true := beq_iff_eq.mpr c20
                        have c20b1 : (((rd_T48 l0 x12_1).f1) != ((rd_T48 l0 x12_1).f0)) = false := bne_eq_false_iff_eq.mpr c20
                        clear c20
                        (first | rw [c20b0] | (simp only [i64_w, i32_w]; rw [c20b0]) | skip)
                        have H' := Aside0.mk H
                        clear H
                        go_wp2
                        go_meet
                        case rel => exact ⟨_, (x4_1 ++ t112), (by first | rfl | (simp; done) | (simp [*]; done)), H', ⟨by have := HK1.out; have := HJ4.out; first | omega | exact Nat.le_refl _⟩, ⟨by (with_reducible repeat (first | refine blk_drewN ?_ _ | refine blk_drew ?_ | refine blk_alloc ?_ _)); exact BK111.out⟩, ⟨by repeat (first | (with_reducible first | exact HB.out | apply below_alloc | apply pw_below_drewN | apply below_drew1 | refine below_set ?_ GE111.out) | exact HB.out)⟩⟩
                      · rw [if_neg c20] at H
                        have c20b0 : (((rd_T48 l0 x12_1).f1) == ((rd_T48 l0 x12_1).f0)) = false := beq_eq_false_iff_ne.mpr c20
                        have c20b1 : (((rd_T48 l0 x12_1).f1) != ((rd_T48 l0 x12_1).f0)) = true := bne_iff_ne.mpr c20
                        (first | rw [c20b0] | (simp only [i64_w, i32_w]; rw [c20b0]) | skip)
                        replace H := Option.bind_eq_some_iff.mp H
                        obtain ⟨t113, A210, H⟩ := H
                        replace H : (if 2 + t113.size ≤ 9223372036854775807 then (if (x4_1 ++ t112).size + ((⟨#[46, 46]⟩ : ByteArray) ++ t113).size ≤ 9223372036854775807 then (rubricatorref02_Print.j2 kj4 ((x4_1 ++ t112) ++ ((⟨#[46, 46]⟩ : ByteArray) ++ t113)) l0 (l0.length : Int) x12_1 ((rd_T48 l0 x12_1).f0) ((rd_T48 l0 x12_1).f1) ((rd_T48 l0 x12_1).f2)) else (none)) else (none)) = some (r1, r2) := H
                        have A21 := Aside0.mk A210
                        clear A210
                        by_cases c22 : 2 + t113.size ≤ 9223372036854775807
                        · rw [if_pos c22] at H
                          have c22b0 := eq_true c22
                          have c22b1 : decide (2 + t113.size ≤ 9223372036854775807) = true := decide_eq_true c22
                          try have c22b2 : (9223372036854775807 < 2 + t113.size) = False := eq_false (Nat.not_lt.2 c22)
                          by_cases c23 : (x4_1 ++ t112).size + ((⟨#[46, 46]⟩ : ByteArray) ++ t113).size ≤ 9223372036854775807
                          · rw [if_pos c23] at H
                            have c23b0 := eq_true c23
                            have c23b1 : decide ((x4_1 ++ t112).size + ((⟨#[46, 46]⟩ : ByteArray) ++ t113).size ≤ 9223372036854775807) = true := decide_eq_true c23
                            try have c23b2 : (9223372036854775807 < (x4_1 ++ t112).size + ((⟨#[46, 46]⟩ : ByteArray) ++ t113).size) = False := eq_false (Nat.not_lt.2 c23)
                            have H' := Aside0.mk H
                            clear H
                            have hcz24_0 : wc.cell? ⟨gb111, 0, none⟩ = some (.int .i64 ((rd_T48 l0 x12_1).f0)) := (blk_cell BK111.out 0).trans rfl
                            have hcz24_1 : wc.cell? ⟨gb111, 1, none⟩ = some (.int .i64 ((rd_T48 l0 x12_1).f1)) := (blk_cell BK111.out 1).trans rfl
                            have hcz24_2 : wc.cell? ⟨gb111, 2, none⟩ = some (.slice A110_2 ((rd_T48 l0 x12_1).f2).length c110_2) := (blk_cell BK111.out 2).trans rfl
                            have hfz24_0 := blk_frozen BK111.out 0
                            have hfz24_1 := blk_frozen BK111.out 1
                            have hfz24_2 := blk_frozen BK111.out 2
                            go_wp2_with (first | ((with_reducible refine gate_callee (f := 56) rfl ?_); refine goesL_ (some 50) rfl rfl Tryd.func56 (by kernel_rfl) rfl #[.int .i64 ((rd_T48 l0 x12_1).f1)] rfl (by (try simp only [List.map_toArray, List.map_cons, List.map_nil]); first | done | rfl | (simp only [List.length_drop, List.length_take]; rfl)) ?_; (with_reducible refine (rubricatorref02_point.calls kj4 ((rd_T48 l0 x12_1).f1) t113 _ A21.out).mono ?_); rintro e w' ⟨rfl, ⟨nd, rfl⟩⟩; refine ⟨_, rfl, ?_⟩))
                            go_meet
                            case rel => exact ⟨_, ((x4_1 ++ t112) ++ ((⟨#[46, 46]⟩ : ByteArray) ++ t113)), (by first | rfl | (simp; done) | (simp [*]; done)), H', ⟨by have := HK1.out; have := HJ4.out; first | omega | exact Nat.le_refl _⟩, ⟨by (with_reducible repeat (first | refine blk_drewN ?_ _ | refine blk_drew ?_ | refine blk_alloc ?_ _)); exact BK111.out⟩, ⟨by repeat (first | (with_reducible first | exact HB.out | apply below_alloc | apply pw_below_drewN | apply below_drew1 | refine below_set ?_ GE111.out) | exact HB.out)⟩⟩
                          · rw [if_neg c23] at H
                            exact absurd H (by simp)
                        · rw [if_neg c22] at H
                          exact absurd H (by simp)
                    case rest =>
                      clear HC18
                      try clear c1
                      try clear p1
                      try clear q1
                      try clear hx1
                      try clear c2
                      try clear c2b0
                      try clear p2
                      try clear c3
                      try clear c3b0
                      try clear c4
                      try clear c4b0
                      try clear c5
                      try clear c8
                      try clear c8b0
                      try clear c10
                      try clear c10b0
                      try clear c11
                      try clear p11
                      try clear q11
                      try clear hx11
                      try clear c12
                      try clear c12b0
                      try clear c15
                      try clear c17
                      try clear c17b0
                      try clear c17b1
                      try clear c17b2
                      try clear c20
                      try clear c20b0
                      try clear c20b1
                      try clear c22
                      try clear c22b0
                      try clear c22b1
                      try clear c22b2
                      try clear c23
                      try clear c23b0
                      try clear c23b1
                      try clear c23b2
                      try clear hcz11_0
                      try clear hcz11_1
                      try clear hcz11_2
                      try clear hcz13_0
                      try clear hcz13_1
                      try clear hcz13_2
                      try clear hcz14_0
                      try clear hcz14_1
                      try clear hcz14_2
                      try clear hcz19_0
                      try clear hcz19_1
                      try clear hcz19_2
                      try clear hcz24_0
                      try clear hcz24_1
                      try clear hcz24_2
                      try clear hcz7_0
                      try clear hcz7_1
                      try clear hcz7_2
                      try clear hcz9_0
                      try clear hcz9_1
                      try clear hcz9_2
                      try clear hfz11_0
                      try clear hfz11_1
                      try clear hfz11_2
                      try clear hfz13_0
                      try clear hfz13_1
                      try clear hfz13_2
                      try clear hfz14_0
                      try clear hfz14_1
                      try clear hfz14_2
                      try clear hfz19_0
                      try clear hfz19_1
                      try clear hfz19_2
                      try clear hfz24_0
                      try clear hfz24_1
                      try clear hfz24_2
                      try clear hfz7_0
                      try clear hfz7_1
                      try clear hfz7_2
                      try clear hfz9_0
                      try clear hfz9_1
                      try clear hfz9_2
                      try clear hx110_0
                      try clear hx110_1
                      try clear hx110_2
                      try clear p1
                      try clear p11
                      try clear p110
                      try clear p2
                      try clear q1
                      try clear q11
                      try clear q110
                      obtain ⟨kq, x4_17, rfl, HA, HJ17, BK111, HB⟩ := hcut
                      cases kq with
                      | zero => exact absurd HA.out (by simp [rubricatorref02_Print.j2])
                      | succ kj17 =>
                        have H := HA.out
                        clear HA
                        simp only [rubricatorref02_Print.j2] at H
                        have H' := Aside0.mk H
                        clear H
                        have hcz25_0 : wc.cell? ⟨gb111, 0, none⟩ = some (.int .i64 ((rd_T48 l0 x12_1).f0)) := (blk_cell BK111.out 0).trans rfl
                        have hcz25_1 : wc.cell? ⟨gb111, 1, none⟩ = some (.int .i64 ((rd_T48 l0 x12_1).f1)) := (blk_cell BK111.out 1).trans rfl
                        have hcz25_2 : wc.cell? ⟨gb111, 2, none⟩ = some (.slice A110_2 ((rd_T48 l0 x12_1).f2).length c110_2) := (blk_cell BK111.out 2).trans rfl
                        have hfz25_0 := blk_frozen BK111.out 0
                        have hfz25_1 := blk_frozen BK111.out 1
                        have hfz25_2 := blk_frozen BK111.out 2
                        go_wp2
                        go_loopg [4, 56] kj17 (fun kq v4 v56 w' => ∃ (x4_4 : ByteArray) (x56_4 : Int), v4 = .string x4_4 ∧ v56 = .int .i64 x56_4 ∧ Aside0 (rubricatorref02_Print.l1 kq x4_4 l0 (l0.length : Int) x12_1 ((rd_T48 l0 x12_1).f2) (((rd_T48 l0 x12_1).f2).length : Int) x56_4 = some (r1, r2)) ∧ Aside0 (kq ≤ kj17) ∧ Aside0 (w'.heap[gb111]? = some (.cells #[.int .i64 ((rd_T48 l0 x12_1).f0), .int .i64 ((rd_T48 l0 x12_1).f1), (.slice A110_2 ((rd_T48 l0 x12_1).f2).length c110_2)] 48 (0, 0))) ∧ Aside0 (Below w.heap.size w w'))
                        case atStart => exact ⟨(x4_17), (0), (by first | rfl | (simp; done) | (simp [*]; done)), (by first | rfl | (simp; done) | (simp [*]; done)), H', ⟨Nat.le_refl _⟩, ⟨by (with_reducible repeat (first | refine blk_drewN ?_ _ | refine blk_drew ?_ | refine blk_alloc ?_ _)); exact BK111.out⟩, ⟨by repeat (first | (with_reducible first | exact HB.out | apply below_alloc | apply pw_below_drewN | apply below_drew1 | refine below_set ?_ GE111.out) | exact HB.out)⟩⟩
                        case round =>
                          clear H'
                          try clear c1
                          try clear p1
                          try clear q1
                          try clear hx1
                          try clear c2
                          try clear c2b0
                          try clear p2
                          try clear c3
                          try clear c3b0
                          try clear c4
                          try clear c4b0
                          try clear c5
                          try clear c8
                          try clear c8b0
                          try clear c10
                          try clear c10b0
                          try clear c11
                          try clear p11
                          try clear q11
                          try clear hx11
                          try clear c12
                          try clear c12b0
                          try clear c15
                          try clear c17
                          try clear c17b0
                          try clear c17b1
                          try clear c17b2
                          try clear c20
                          try clear c20b0
                          try clear c20b1
                          try clear c22
                          try clear c22b0
                          try clear c22b1
                          try clear c22b2
                          try clear c23
                          try clear c23b0
                          try clear c23b1
                          try clear c23b2
                          try clear hcz11_0
                          try clear hcz11_1
                          try clear hcz11_2
                          try clear hcz13_0
                          try clear hcz13_1
                          try clear hcz13_2
                          try clear hcz14_0
                          try clear hcz14_1
                          try clear hcz14_2
                          try clear hcz19_0
                          try clear hcz19_1
                          try clear hcz19_2
                          try clear hcz24_0
                          try clear hcz24_1
                          try clear hcz24_2
                          try clear hcz25_0
                          try clear hcz25_1
                          try clear hcz25_2
                          try clear hcz7_0
                          try clear hcz7_1
                          try clear hcz7_2
                          try clear hcz9_0
                          try clear hcz9_1
                          try clear hcz9_2
                          try clear hfz11_0
                          try clear hfz11_1
                          try clear hfz11_2
                          try clear hfz13_0
                          try clear hfz13_1
                          try clear hfz13_2
                          try clear hfz14_0
                          try clear hfz14_1
                          try clear hfz14_2
                          try clear hfz19_0
                          try clear hfz19_1
                          try clear hfz19_2
                          try clear hfz24_0
                          try clear hfz24_1
                          try clear hfz24_2
                          try clear hfz25_0
                          try clear hfz25_1
                          try clear hfz25_2
                          try clear hfz7_0
                          try clear hfz7_1
                          try clear hfz7_2
                          try clear hfz9_0
                          try clear hfz9_1
                          try clear hfz9_2
                          try clear hx110_0
                          try clear hx110_1
                          try clear hx110_2
                          try clear p1
                          try clear p11
                          try clear p110
                          try clear p2
                          try clear q1
                          try clear q11
                          try clear q110
                          obtain ⟨x4_4, x56_4, rfl, rfl, HA, HK4, BK111, HB⟩ := hrel
                          cases gk with
                          | zero => exact absurd HA.out (by simp [rubricatorref02_Print.l1])
                          | succ k4 =>
                            have H := HA.out
                            clear HA
                            simp only [rubricatorref02_Print.l1] at H
                            by_cases c26 : x56_4 < (((rd_T48 l0 x12_1).f2).length : Int)
                            · rw [if_pos c26] at H
                              have c26b0 : decide (x56_4 < (((rd_T48 l0 x12_1).f2).length : Int)) = true := decide_eq_true c26
                              clear c26
                              by_cases c27 : 0 ≤ x56_4
                              · rw [if_pos c27] at H
                                have c27b0 : decide (0 ≤ x56_4) = true := decide_eq_true c27
                                clear c27
                                by_cases c28 : x56_4 < (((rd_T48 l0 x12_1).f2).length : Int)
                                · rw [if_pos c28] at H
                                  have c28b0 : decide (x56_4 < (((rd_T48 l0 x12_1).f2).length : Int)) = true := decide_eq_true c28
                                  clear c28
                                  replace H := Option.bind_eq_some_iff.mp H
                                  obtain ⟨t115, A290, H⟩ := H
                                  replace H : (if t115.toList = (rdOf ByteArray.empty ((rd_T48 l0 x12_1).f2) x56_4).toList then (rubricatorref02_Print.l2 k4 x4_4 (rdOf ByteArray.empty ((rd_T48 l0 x12_1).f2) x56_4) 0 l0 (l0.length : Int) x12_1 ((rd_T48 l0 x12_1).f2) (((rd_T48 l0 x12_1).f2).length : Int) x56_4) else (some ((⟨#[]⟩ : ByteArray), 1))) = some (r1, r2) := H
                                  have A29 := Aside0.mk A290
                                  clear A290
                                  by_cases c30 : t115.toList = (rdOf ByteArray.empty ((rd_T48 l0 x12_1).f2) x56_4).toList
                                  · rw [if_pos c30] at H
                                    have c30b0 : (t115.toList == (rdOf ByteArray.empty ((rd_T48 l0 x12_1).f2) x56_4).toList) = true := beq_iff_eq.mpr c30
                                    have c30b1 : (t115.toList != (rdOf ByteArray.empty ((rd_T48 l0 x12_1).f2) x56_4).toList) = false := bne_eq_false_iff_eq.mpr c30
                                    clear c30
                                    have H' := Aside0.mk H
                                    clear H
                                    have p114 : 0 ≤ (x56_4 : Int) := of_decide_eq_true (by first | (with_reducible assumption) | assumption)
                                    have q114 : x56_4 < (((rd_T48 l0 x12_1).f2).length : Int) := of_decide_eq_true (by first | (with_reducible assumption) | assumption)
                                    obtain ⟨ad114, e114, hx114_0⟩ := Kd.at_string HR110_2.out x56_4 p114 q114
                                    cases e114
                                    replace hx114_0 := (HB.out.cell (World.block_lt_of_cell? w _ hx114_0)).trans hx114_0
                                    replace p114 := eq_true p114
                                    replace q114 := eq_true q114
                                    go_wp2_with (first | ((with_reducible refine gate_callee (f := 57) rfl ?_); refine goesL_ (some 61) rfl rfl Tryd.func57 (by kernel_rfl) rfl #[.string (rdOf ByteArray.empty ((rd_T48 l0 x12_1).f2) x56_4)] rfl (by (try simp only [List.map_toArray, List.map_cons, List.map_nil]); first | done | rfl | (simp only [List.length_drop, List.length_take]; rfl)) ?_; (with_reducible refine (rubricatorref02_trim.calls k4 (rdOf ByteArray.empty ((rd_T48 l0 x12_1).f2) x56_4) t115 _ A29.out).mono ?_); rintro e w' ⟨rfl, ⟨nd, rfl⟩⟩; refine ⟨_, rfl, ?_⟩))
                                    go_loopg [9] k4 (fun kq v9 w' => ∃ (x9_5 : Int), v9 = .int .i64 x9_5 ∧ Aside0 (rubricatorref02_Print.l2 kq x4_4 (rdOf ByteArray.empty ((rd_T48 l0 x12_1).f2) x56_4) x9_5 l0 (l0.length : Int) x12_1 ((rd_T48 l0 x12_1).f2) (((rd_T48 l0 x12_1).f2).length : Int) x56_4 = some (r1, r2)) ∧ Aside0 (kq ≤ k4) ∧ Aside0 (w'.heap[gb111]? = some (.cells #[.int .i64 ((rd_T48 l0 x12_1).f0), .int .i64 ((rd_T48 l0 x12_1).f1), (.slice (some ad114) ((rd_T48 l0 x12_1).f2).length c110_2)] 48 (0, 0))) ∧ Aside0 (Below w.heap.size w w'))
                                    case atStart => exact ⟨(0), (by first | rfl | (simp; done) | (simp [*]; done)), H', ⟨Nat.le_refl _⟩, ⟨by (with_reducible repeat (first | refine blk_drewN ?_ _ | refine blk_drew ?_ | refine blk_alloc ?_ _)); exact BK111.out⟩, ⟨by repeat (first | (with_reducible first | exact HB.out | apply below_alloc | apply pw_below_drewN | apply below_drew1 | refine below_set ?_ GE111.out) | exact HB.out)⟩⟩
                                    case round =>
                                      clear H'
                                      try clear c1
                                      try clear p1
                                      try clear q1
                                      try clear hx1
                                      try clear c2
                                      try clear c2b0
                                      try clear p2
                                      try clear c3
                                      try clear c3b0
                                      try clear c4
                                      try clear c4b0
                                      try clear c5
                                      try clear c8
                                      try clear c8b0
                                      try clear c10
                                      try clear c10b0
                                      try clear c11
                                      try clear p11
                                      try clear q11
                                      try clear hx11
                                      try clear c12
                                      try clear c12b0
                                      try clear c15
                                      try clear c17
                                      try clear c17b0
                                      try clear c17b1
                                      try clear c17b2
                                      try clear c20
                                      try clear c20b0
                                      try clear c20b1
                                      try clear c22
                                      try clear c22b0
                                      try clear c22b1
                                      try clear c22b2
                                      try clear c23
                                      try clear c23b0
                                      try clear c23b1
                                      try clear c23b2
                                      try clear c26
                                      try clear c26b0
                                      try clear c27
                                      try clear c27b0
                                      try clear c28
                                      try clear c28b0
                                      try clear c30
                                      try clear c30b0
                                      try clear c30b1
                                      try clear hcz11_0
                                      try clear hcz11_1
                                      try clear hcz11_2
                                      try clear hcz13_0
                                      try clear hcz13_1
                                      try clear hcz13_2
                                      try clear hcz14_0
                                      try clear hcz14_1
                                      try clear hcz14_2
                                      try clear hcz19_0
                                      try clear hcz19_1
                                      try clear hcz19_2
                                      try clear hcz24_0
                                      try clear hcz24_1
                                      try clear hcz24_2
                                      try clear hcz25_0
                                      try clear hcz25_1
                                      try clear hcz25_2
                                      try clear hcz7_0
                                      try clear hcz7_1
                                      try clear hcz7_2
                                      try clear hcz9_0
                                      try clear hcz9_1
                                      try clear hcz9_2
                                      try clear hfz11_0
                                      try clear hfz11_1
                                      try clear hfz11_2
                                      try clear hfz13_0
                                      try clear hfz13_1
                                      try clear hfz13_2
                                      try clear hfz14_0
                                      try clear hfz14_1
                                      try clear hfz14_2
                                      try clear hfz19_0
                                      try clear hfz19_1
                                      try clear hfz19_2
                                      try clear hfz24_0
                                      try clear hfz24_1
                                      try clear hfz24_2
                                      try clear hfz25_0
                                      try clear hfz25_1
                                      try clear hfz25_2
                                      try clear hfz7_0
                                      try clear hfz7_1
                                      try clear hfz7_2
                                      try clear hfz9_0
                                      try clear hfz9_1
                                      try clear hfz9_2
                                      try clear hx110_0
                                      try clear hx110_1
                                      try clear hx110_2
                                      try clear hx114_0
                                      try clear p1
                                      try clear p11
                                      try clear p110
                                      try clear p114
                                      try clear p2
                                      try clear q1
                                      try clear q11
                                      try clear q110
                                      try clear q114
                                      obtain ⟨x9_5, rfl, HA, HK5, BK111, HB⟩ := hrel
                                      cases gk with
                                      | zero => exact absurd HA.out (by simp [rubricatorref02_Print.l2])
                                      | succ k5 =>
                                        have H := HA.out
                                        clear HA
                                        simp only [rubricatorref02_Print.l2] at H
                                        by_cases c31 : x9_5 < ((rdOf ByteArray.empty ((rd_T48 l0 x12_1).f2) x56_4).size : Int)
                                        · rw [if_pos c31] at H
                                          have c31b0 : decide (x9_5 < ((rdOf ByteArray.empty ((rd_T48 l0 x12_1).f2) x56_4).size : Int)) = true := decide_eq_true c31
                                          clear c31
                                          by_cases c32 : 0 ≤ x9_5
                                          · rw [if_pos c32] at H
                                            have c32b0 : decide (0 ≤ x9_5) = true := decide_eq_true c32
                                            clear c32
                                            by_cases c34 : (bt (rdOf ByteArray.empty ((rd_T48 l0 x12_1).f2) x56_4) x9_5) = 59
                                            · rw [if_pos c34] at H
                                              have c34b0 : ((bt (rdOf ByteArray.empty ((rd_T48 l0 x12_1).f2) x56_4) x9_5) == 59) = true := beq_iff_eq.mpr c34
                                              have c34b1 : ((bt (rdOf ByteArray.empty ((rd_T48 l0 x12_1).f2) x56_4) x9_5) != 59) = false := bne_eq_false_iff_eq.mpr c34
                                              clear c34
                                              simp only [Option.some.injEq, Prod.mk.injEq] at H
                                              obtain ⟨rfl, rfl⟩ := H
                                              have p33 : 0 ≤ (x9_5 : Int) := of_decide_eq_true (by first | (with_reducible assumption) | assumption)
                                              have q33 : x9_5 < ((rdOf ByteArray.empty ((rd_T48 l0 x12_1).f2) x56_4).size : Int) := of_decide_eq_true (by first | (with_reducible assumption) | assumption)
                                              have hx33 := bt_at (rdOf ByteArray.empty ((rd_T48 l0 x12_1).f2) x56_4) x9_5
                                              replace p33 := eq_true p33
                                              replace q33 := eq_true q33
                                              go_wp2
                                              go_ret2
                                              exact ⟨by first | rfl | (simp [errW_none, errW_some] <;> rfl) | (simp [*, errW_none, errW_some] <;> rfl), by repeat (first | (with_reducible first | exact HB.out | apply below_alloc | apply pw_below_drewN | apply below_drew1 | refine below_set ?_ GE111.out) | exact HB.out)⟩
                                            · rw [if_neg c34] at H
                                              have c34b0 : ((bt (rdOf ByteArray.empty ((rd_T48 l0 x12_1).f2) x56_4) x9_5) == 59) = false := beq_eq_false_iff_ne.mpr c34
                                              have c34b1 : ((bt (rdOf ByteArray.empty ((rd_T48 l0 x12_1).f2) x56_4) x9_5) != 59) = true := bne_iff_ne.mpr c34
                                              by_cases c36 : (bt (rdOf ByteArray.empty ((rd_T48 l0 x12_1).f2) x56_4) x9_5) = 35
                                              · rw [if_pos c36] at H
                                                have c36b0 : ((bt (rdOf ByteArray.empty ((rd_T48 l0 x12_1).f2) x56_4) x9_5) == 35) = true := beq_iff_eq.mpr c36
                                                have c36b1 : ((bt (rdOf ByteArray.empty ((rd_T48 l0 x12_1).f2) x56_4) x9_5) != 35) = false := bne_eq_false_iff_eq.mpr c36
                                                clear c36
                                                simp only [Option.some.injEq, Prod.mk.injEq] at H
                                                obtain ⟨rfl, rfl⟩ := H
                                                have p33 : 0 ≤ (x9_5 : Int) := of_decide_eq_true (by first | (with_reducible assumption) | assumption)
                                                have q33 : x9_5 < ((rdOf ByteArray.empty ((rd_T48 l0 x12_1).f2) x56_4).size : Int) := of_decide_eq_true (by first | (with_reducible assumption) | assumption)
                                                have hx33 := bt_at (rdOf ByteArray.empty ((rd_T48 l0 x12_1).f2) x56_4) x9_5
                                                replace p33 := eq_true p33
                                                replace q33 := eq_true q33
                                                have p35 : 0 ≤ (x9_5 : Int) := of_decide_eq_true (by first | (with_reducible assumption) | assumption)
                                                have q35 : x9_5 < ((rdOf ByteArray.empty ((rd_T48 l0 x12_1).f2) x56_4).size : Int) := of_decide_eq_true (by first | (with_reducible assumption) | assumption)
                                                have hx35 := bt_at (rdOf ByteArray.empty ((rd_T48 l0 x12_1).f2) x56_4) x9_5
                                                replace p35 := eq_true p35
                                                replace q35 := eq_true q35
                                                go_wp2
                                                go_ret2
                                                exact ⟨by first | rfl | (simp [errW_none, errW_some] <;> rfl) | (simp [*, errW_none, errW_some] <;> rfl), by repeat (first | (with_reducible first | exact HB.out | apply below_alloc | apply pw_below_drewN | apply below_drew1 | refine below_set ?_ GE111.out) | exact HB.out)⟩
                                              · rw [if_neg c36] at H
                                                have c36b0 : ((bt (rdOf ByteArray.empty ((rd_T48 l0 x12_1).f2) x56_4) x9_5) == 35) = false := beq_eq_false_iff_ne.mpr c36
                                                have c36b1 : ((bt (rdOf ByteArray.empty ((rd_T48 l0 x12_1).f2) x56_4) x9_5) != 35) = true := bne_iff_ne.mpr c36
                                                by_cases c38 : (bt (rdOf ByteArray.empty ((rd_T48 l0 x12_1).f2) x56_4) x9_5) = 10
                                                · rw [if_pos c38] at H
                                                  have c38b0 : ((bt (rdOf ByteArray.empty ((rd_T48 l0 x12_1).f2) x56_4) x9_5) == 10) = true := beq_iff_eq.mpr c38
                                                  have c38b1 : ((bt (rdOf ByteArray.empty ((rd_T48 l0 x12_1).f2) x56_4) x9_5) != 10) = false := bne_eq_false_iff_eq.mpr c38
                                                  clear c38
                                                  simp only [Option.some.injEq, Prod.mk.injEq] at H
                                                  obtain ⟨rfl, rfl⟩ := H
                                                  have p33 : 0 ≤ (x9_5 : Int) := of_decide_eq_true (by first | (with_reducible assumption) | assumption)
                                                  have q33 : x9_5 < ((rdOf ByteArray.empty ((rd_T48 l0 x12_1).f2) x56_4).size : Int) := of_decide_eq_true (by first | (with_reducible assumption) | assumption)
                                                  have hx33 := bt_at (rdOf ByteArray.empty ((rd_T48 l0 x12_1).f2) x56_4) x9_5
                                                  replace p33 := eq_true p33
                                                  replace q33 := eq_true q33
                                                  have p35 : 0 ≤ (x9_5 : Int) := of_decide_eq_true (by first | (with_reducible assumption) | assumption)
                                                  have q35 : x9_5 < ((rdOf ByteArray.empty ((rd_T48 l0 x12_1).f2) x56_4).size : Int) := of_decide_eq_true (by first | (with_reducible assumption) | assumption)
                                                  have hx35 := bt_at (rdOf ByteArray.empty ((rd_T48 l0 x12_1).f2) x56_4) x9_5
                                                  replace p35 := eq_true p35
                                                  replace q35 := eq_true q35
                                                  have p37 : 0 ≤ (x9_5 : Int) := of_decide_eq_true (by first | (with_reducible assumption) | assumption)
                                                  have q37 : x9_5 < ((rdOf ByteArray.empty ((rd_T48 l0 x12_1).f2) x56_4).size : Int) := of_decide_eq_true (by first | (with_reducible assumption) | assumption)
                                                  have hx37 := bt_at (rdOf ByteArray.empty ((rd_T48 l0 x12_1).f2) x56_4) x9_5
                                                  replace p37 := eq_true p37
                                                  replace q37 := eq_true q37
                                                  go_wp2
                                                  go_ret2
                                                  exact ⟨by first | rfl | (simp [errW_none, errW_some] <;> rfl) | (simp [*, errW_none, errW_some] <;> rfl), by repeat (first | (with_reducible first | exact HB.out | apply below_alloc | apply pw_below_drewN | apply below_drew1 | refine below_set ?_ GE111.out) | exact HB.out)⟩
                                                · rw [if_neg c38] at H
                                                  have c38b0 : ((bt (rdOf ByteArray.empty ((rd_T48 l0 x12_1).f2) x56_4) x9_5) == 10) = false := beq_eq_false_iff_ne.mpr c38
                                                  have c38b1 : ((bt (rdOf ByteArray.empty ((rd_T48 l0 x12_1).f2) x56_4) x9_5) != 10) = true := bne_iff_ne.mpr c38
                                                  have H' := Aside0.mk H
                                                  clear H
                                                  have p33 : 0 ≤ (x9_5 : Int) := of_decide_eq_true (by first | (with_reducible assumption) | assumption)
                                                  have q33 : x9_5 < ((rdOf ByteArray.empty ((rd_T48 l0 x12_1).f2) x56_4).size : Int) := of_decide_eq_true (by first | (with_reducible assumption) | assumption)
                                                  have hx33 := bt_at (rdOf ByteArray.empty ((rd_T48 l0 x12_1).f2) x56_4) x9_5
                                                  replace p33 := eq_true p33
                                                  replace q33 := eq_true q33
                                                  have p35 : 0 ≤ (x9_5 : Int) := of_decide_eq_true (by first | (with_reducible assumption) | assumption)
                                                  have q35 : x9_5 < ((rdOf ByteArray.empty ((rd_T48 l0 x12_1).f2) x56_4).size : Int) := of_decide_eq_true (by first | (with_reducible assumption) | assumption)
                                                  have hx35 := bt_at (rdOf ByteArray.empty ((rd_T48 l0 x12_1).f2) x56_4) x9_5
                                                  replace p35 := eq_true p35
                                                  replace q35 := eq_true q35
                                                  have p37 : 0 ≤ (x9_5 : Int) := of_decide_eq_true (by first | (with_reducible assumption) | assumption)
                                                  have q37 : x9_5 < ((rdOf ByteArray.empty ((rd_T48 l0 x12_1).f2) x56_4).size : Int) := of_decide_eq_true (by first | (with_reducible assumption) | assumption)
                                                  have hx37 := bt_at (rdOf ByteArray.empty ((rd_T48 l0 x12_1).f2) x56_4) x9_5
                                                  replace p37 := eq_true p37
                                                  replace q37 := eq_true q37
                                                  go_wp2
                                                  go_roundg k5
                                                  case measure => have := HK1.out; have := HJ4.out; have := HJ17.out; have := HK4.out; have := HK5.out; omega
                                                  case rel => exact ⟨(wrap64 (x9_5 + 1)), (by first | rfl | (simp; done) | (simp [*]; done)), H', ⟨by have := HK1.out; have := HJ4.out; have := HJ17.out; have := HK4.out; have := HK5.out; omega⟩, ⟨by (with_reducible repeat (first | refine blk_drewN ?_ _ | refine blk_drew ?_ | refine blk_alloc ?_ _)); exact BK111.out⟩, ⟨by repeat (first | (with_reducible first | exact HB.out | apply below_alloc | apply pw_below_drewN | apply below_drew1 | refine below_set ?_ GE111.out) | exact HB.out)⟩⟩
                                          · rw [if_neg c32] at H
                                            exact absurd H (by simp)
                                        · rw [if_neg c31] at H
                                          have c31b0 : decide (x9_5 < ((rdOf ByteArray.empty ((rd_T48 l0 x12_1).f2) x56_4).size : Int)) = false := decide_eq_false c31
                                          clear c31
                                          by_cases c39 : 3 + (rdOf ByteArray.empty ((rd_T48 l0 x12_1).f2) x56_4).size ≤ 9223372036854775807
                                          · rw [if_pos c39] at H
                                            have c39b0 := eq_true c39
                                            have c39b1 : decide (3 + (rdOf ByteArray.empty ((rd_T48 l0 x12_1).f2) x56_4).size ≤ 9223372036854775807) = true := decide_eq_true c39
                                            try have c39b2 : (9223372036854775807 < 3 + (rdOf ByteArray.empty ((rd_T48 l0 x12_1).f2) x56_4).size) = False := eq_false (Nat.not_lt.2 c39)
                                            by_cases c40 : x4_4.size + ((⟨#[32, 59, 32]⟩ : ByteArray) ++ (rdOf ByteArray.empty ((rd_T48 l0 x12_1).f2) x56_4)).size ≤ 9223372036854775807
                                            · rw [if_pos c40] at H
                                              have c40b0 := eq_true c40
                                              have c40b1 : decide (x4_4.size + ((⟨#[32, 59, 32]⟩ : ByteArray) ++ (rdOf ByteArray.empty ((rd_T48 l0 x12_1).f2) x56_4)).size ≤ 9223372036854775807) = true := decide_eq_true c40
                                              try have c40b2 : (9223372036854775807 < x4_4.size + ((⟨#[32, 59, 32]⟩ : ByteArray) ++ (rdOf ByteArray.empty ((rd_T48 l0 x12_1).f2) x56_4)).size) = False := eq_false (Nat.not_lt.2 c40)
                                              have H' := Aside0.mk H
                                              clear H
                                              go_wp2
                                              go_roundg k5
                                              case measure => have := HK1.out; have := HJ4.out; have := HJ17.out; have := HK4.out; have := HK5.out; omega
                                              case rel => exact ⟨(x4_4 ++ ((⟨#[32, 59, 32]⟩ : ByteArray) ++ (rdOf ByteArray.empty ((rd_T48 l0 x12_1).f2) x56_4))), (wrap64 (x56_4 + 1)), (by first | rfl | (simp; done) | (simp [*]; done)), (by first | rfl | (simp; done) | (simp [*]; done)), H', ⟨by have := HK1.out; have := HJ4.out; have := HJ17.out; have := HK4.out; have := HK5.out; omega⟩, ⟨by (with_reducible repeat (first | refine blk_drewN ?_ _ | refine blk_drew ?_ | refine blk_alloc ?_ _)); exact BK111.out⟩, ⟨by repeat (first | (with_reducible first | exact HB.out | apply below_alloc | apply pw_below_drewN | apply below_drew1 | refine below_set ?_ GE111.out) | exact HB.out)⟩⟩
                                            · rw [if_neg c40] at H
                                              exact absurd H (by simp)
                                          · rw [if_neg c39] at H
                                            exact absurd H (by simp)
                                  · rw [if_neg c30] at H
                                    have c30b0 : (t115.toList == (rdOf ByteArray.empty ((rd_T48 l0 x12_1).f2) x56_4).toList) = false := beq_eq_false_iff_ne.mpr c30
                                    have c30b1 : (t115.toList != (rdOf ByteArray.empty ((rd_T48 l0 x12_1).f2) x56_4).toList) = true := bne_iff_ne.mpr c30
                                    simp only [Option.some.injEq, Prod.mk.injEq] at H
                                    obtain ⟨rfl, rfl⟩ := H
                                    have p114 : 0 ≤ (x56_4 : Int) := of_decide_eq_true (by first | (with_reducible assumption) | assumption)
                                    have q114 : x56_4 < (((rd_T48 l0 x12_1).f2).length : Int) := of_decide_eq_true (by first | (with_reducible assumption) | assumption)
                                    obtain ⟨ad114, e114, hx114_0⟩ := Kd.at_string HR110_2.out x56_4 p114 q114
                                    cases e114
                                    replace hx114_0 := (HB.out.cell (World.block_lt_of_cell? w _ hx114_0)).trans hx114_0
                                    replace p114 := eq_true p114
                                    replace q114 := eq_true q114
                                    go_wp2_with (first | ((with_reducible refine gate_callee (f := 57) rfl ?_); refine goesL_ (some 61) rfl rfl Tryd.func57 (by kernel_rfl) rfl #[.string (rdOf ByteArray.empty ((rd_T48 l0 x12_1).f2) x56_4)] rfl (by (try simp only [List.map_toArray, List.map_cons, List.map_nil]); first | done | rfl | (simp only [List.length_drop, List.length_take]; rfl)) ?_; (with_reducible refine (rubricatorref02_trim.calls k4 (rdOf ByteArray.empty ((rd_T48 l0 x12_1).f2) x56_4) t115 _ A29.out).mono ?_); rintro e w' ⟨rfl, ⟨nd, rfl⟩⟩; refine ⟨_, rfl, ?_⟩))
                                    go_ret2
                                    exact ⟨by first | rfl | (simp [errW_none, errW_some] <;> rfl) | (simp [*, errW_none, errW_some] <;> rfl), by repeat (first | (with_reducible first | exact HB.out | apply below_alloc | apply pw_below_drewN | apply below_drew1 | refine below_set ?_ GE111.out) | exact HB.out)⟩
                                · rw [if_neg c28] at H
                                  exact absurd H (by simp)
                              · rw [if_neg c27] at H
                                exact absurd H (by simp)
                            · rw [if_neg c26] at H
                              have c26b0 : decide (x56_4 < (((rd_T48 l0 x12_1).f2).length : Int)) = false := decide_eq_false c26
                              clear c26
                              by_cases c41 : x4_4.size + 1 ≤ 9223372036854775807
                              · rw [if_pos c41] at H
                                have c41b0 := eq_true c41
                                have c41b1 : decide (x4_4.size + 1 ≤ 9223372036854775807) = true := decide_eq_true c41
                                try have c41b2 : (9223372036854775807 < x4_4.size + 1) = False := eq_false (Nat.not_lt.2 c41)
                                have H' := Aside0.mk H
                                clear H
                                go_wp2
                                go_roundg k4
                                case measure => have := HK1.out; have := HJ4.out; have := HJ17.out; have := HK4.out; omega
                                case rel => exact ⟨(x4_4 ++ (⟨#[10]⟩ : ByteArray)), (wrap64 (x12_1 + 1)), (by first | rfl | (simp; done) | (simp [*]; done)), (by first | rfl | (simp; done) | (simp [*]; done)), H', ⟨by have := HK1.out; have := HJ4.out; have := HJ17.out; have := HK4.out; omega⟩, ⟨by repeat (first | (with_reducible first | exact HB.out | apply below_alloc | apply pw_below_drewN | apply below_drew1 | refine below_set ?_ GE111.out) | exact HB.out)⟩⟩
                              · rw [if_neg c41] at H
                                exact absurd H (by simp)
                  · rw [if_neg c17] at H
                    exact absurd H (by simp)
          · rw [if_neg c4] at H
            exact absurd H (by simp)
        · rw [if_neg c3] at H
          exact absurd H (by simp)
      · rw [if_neg c2] at H
        have c2b0 : decide (x12_1 < (l0.length : Int)) = false := decide_eq_false c2
        clear c2
        simp only [Option.some.injEq, Prod.mk.injEq] at H
        obtain ⟨rfl, rfl⟩ := H
        go_wp2
        go_ret2
        exact ⟨by first | rfl | (simp [errW_none, errW_some] <;> rfl) | (simp [*, errW_none, errW_some] <;> rfl), by repeat (first | (with_reducible first | exact HB.out | apply below_alloc | apply pw_below_drewN | apply below_drew1) | exact HB.out)⟩


end

end Go.Proofs.YtooehjbbphokbaaDoor.PLinesPrint
