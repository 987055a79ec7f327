/- Walk: lines.Hex. -/
import Derived.Test.YtooehjbbphokbaaDoorBase
import Derived.Test.YtooehjbbphokbaaDoorLnHex
import Derived.Test.YtooehjbbphokbaaDoorProg
import Derived.Laws.RangeAny
import Derived.Laws.RangeString
import Derived.Laws.ShiftsVar
import Derived.LoopTactic
namespace Go.Proofs.YtooehjbbphokbaaDoor
set_option linter.unusedVariables false
set_option linter.unusedSimpArgs false
open Go.RowKit Go.Proofs.YtooehjbbphokbaaDoorW.PrintWords Go.Proofs.YtooehjbbphokbaaDoorW.PrintLast Go.Proofs.YtooehjbbphokbaaDoorW.PrintMore

set_option maxHeartbeats 4000000 in
set_option maxRecDepth 100000 in
theorem hex_any (s : ByteArray) (w : World) :
    Calls Tryd.prog 14 #[.string s] w fun e w' => e = .returned (.tuple #[.int .i64 (hexAns s).1, .bool (hexAns s).2]) ∧ Below w.heap.size w w' := by
  by_cases h4 : (s.size : Int) < 4
  · have HA : Aside0 (hexAns s = (0, false)) := ⟨by unfold hexAns; rw [if_pos (.inl (by omega))]⟩
    go_enter Tryd.func14, Tryd.ntmps14
    go_wp2
    go_ret2
    rw [HA.out]
    exact ⟨rfl, Below.refl _ _⟩
  · by_cases h6 : (6 : Int) < s.size
    · have HA : Aside0 (hexAns s = (0, false)) := ⟨by unfold hexAns; rw [if_pos (.inr (by omega))]⟩
      go_enter Tryd.func14, Tryd.ntmps14
      go_wp2
      go_ret2
      rw [HA.out]
      exact ⟨rfl, Below.refl _ _⟩
    · have HA : Aside0 (hexAns s = match hexFrom s 0 0 with | none => (0, false) | some n => if 1114111 < n then (0, false) else (n, true)) := ⟨by unfold hexAns; rw [if_neg (by omega)]; rfl⟩
      go_enter Tryd.func14, Tryd.ntmps14
      go_wp2
      go_loopw [4] (fun x w' => ∃ (pos : Nat) (n : Int), w' = w.iter s pos ∧ x = .int .i64 n ∧ Aside0 (pos ≤ s.size ∧ 0 ≤ n ∧ n < 16 ^ pos ∧ hexFrom s n pos = hexFrom s 0 0)) (fun _ w' => s.size - w'.iterPos w.heap.size)
      case atStart => exact ⟨0, 0, rfl, rfl, ⟨by omega, by omega, by decide, rfl⟩⟩
      case round =>
        obtain ⟨pos, n, rfl, rfl, HC⟩ := hrel
        by_cases hp : pos < s.size
        · have hle := decode_le s pos
          have hrd := rune_digit s pos hp
          have hnx : ∀ ty, (Instr.next (.pointer (some ⟨w.heap.size, 0, none⟩)) true ty).run Tryd.prog (w.iter s pos) = _ := fun ty => run_next_any w s pos ty hp
          obtain ⟨rn, hrn⟩ : ∃ rn, (Utf8.decode s pos).1 = rn := ⟨_, rfl⟩
          obtain ⟨kk, hkk⟩ : ∃ kk, (Utf8.decode s pos).2 = kk := ⟨_, rfl⟩
          rw [hrn, hkk] at hnx
          rw [hrn] at hle hrd
          rw [hkk] at hrd
          obtain ⟨dg, hdg⟩ : ∃ dg, hexD ((s[pos]'hp).toNat : Int) = dg := ⟨_, rfl⟩
          rw [hdg] at hrd
          have HD := Aside0.mk hrd
          have HG := Aside0.mk hdg
          clear hrn hkk hrd hdg
          by_cases a1 : (48 : Int) ≤ rn
          · by_cases a2 : (rn : Int) ≤ 57
            · skip
              have hdv : (rn : Int) - 48 = dg := by
                rw [← HD.out.1]
                unfold hexD
                rw [if_pos ⟨a1, a2⟩]
              have hk1 : kk = 1 := HD.out.2 (by omega)
              subst hk1
              go_wp2
              go_roundw
              case rel =>
                refine ⟨pos + 1, _, rfl, rfl, ⟨?_⟩⟩
                try rw [hdv]
                exact hex_round hp h6 HC.out.2.1 HC.out.2.2.1 HC.out.2.2.2 HG.out (by omega)
              case measure =>
                simp
                omega
            · have b2 : (57 : Int) < rn := by omega
              clear a2
              by_cases a3 : (65 : Int) ≤ rn
              · by_cases a4 : (rn : Int) ≤ 70
                · skip
                  have hdv : (rn : Int) - 65 + 10 = dg := by
                    rw [← HD.out.1]
                    unfold hexD
                    rw [if_neg (by omega), if_pos ⟨a3, a4⟩]
                  have hk1 : kk = 1 := HD.out.2 (by omega)
                  subst hk1
                  go_wp2
                  go_roundw
                  case rel =>
                    refine ⟨pos + 1, _, rfl, rfl, ⟨?_⟩⟩
                    try rw [hdv]
                    exact hex_round hp h6 HC.out.2.1 HC.out.2.2.1 HC.out.2.2.2 HG.out (by omega)
                  case measure =>
                    simp
                    omega
                · have b4 : (70 : Int) < rn := by omega
                  clear a4
                  by_cases a5 : (97 : Int) ≤ rn
                  · by_cases a6 : (rn : Int) ≤ 102
                    · skip
                      have hdv : (rn : Int) - 97 + 10 = dg := by
                        rw [← HD.out.1]
                        unfold hexD
                        rw [if_neg (by omega), if_neg (by omega), if_pos ⟨a5, a6⟩]
                      have hk1 : kk = 1 := HD.out.2 (by omega)
                      subst hk1
                      go_wp2
                      go_roundw
                      case rel =>
                        refine ⟨pos + 1, _, rfl, rfl, ⟨?_⟩⟩
                        try rw [hdv]
                        exact hex_round hp h6 HC.out.2.1 HC.out.2.2.1 HC.out.2.2.2 HG.out (by omega)
                      case measure =>
                        simp
                        omega
                    · have b6 : (102 : Int) < rn := by omega
                      clear a6
                      have hdv : dg = -1 := by
                        rw [← HD.out.1]
                        unfold hexD
                        rw [if_neg (by omega), if_neg (by omega), if_neg (by omega)]
                      have HQ : Aside0 (hexAns s = (0, false)) := ⟨by rw [HA.out, ← HC.out.2.2.2, hexFrom_bad hp (by rw [HG.out]; omega)]⟩
                      have HB : Aside0 (Below w.heap.size w (w.iter s (pos + kk))) := ⟨below_alloc (Below.refl _ _) _⟩
                      go_wp2
                      go_ret2
                      rw [HQ.out]
                      exact ⟨rfl, HB.out⟩
                  · have b5 : (rn : Int) < 97 := by omega
                    clear a5
                    have hdv : dg = -1 := by
                      rw [← HD.out.1]
                      unfold hexD
                      rw [if_neg (by omega), if_neg (by omega), if_neg (by omega)]
                    have HQ : Aside0 (hexAns s = (0, false)) := ⟨by rw [HA.out, ← HC.out.2.2.2, hexFrom_bad hp (by rw [HG.out]; omega)]⟩
                    have HB : Aside0 (Below w.heap.size w (w.iter s (pos + kk))) := ⟨below_alloc (Below.refl _ _) _⟩
                    go_wp2
                    go_ret2
                    rw [HQ.out]
                    exact ⟨rfl, HB.out⟩
              · have b3 : (rn : Int) < 65 := by omega
                have b5 : (rn : Int) < 97 := by omega
                clear a3
                have hdv : dg = -1 := by
                  rw [← HD.out.1]
                  unfold hexD
                  rw [if_neg (by omega), if_neg (by omega), if_neg (by omega)]
                have HQ : Aside0 (hexAns s = (0, false)) := ⟨by rw [HA.out, ← HC.out.2.2.2, hexFrom_bad hp (by rw [HG.out]; omega)]⟩
                have HB : Aside0 (Below w.heap.size w (w.iter s (pos + kk))) := ⟨below_alloc (Below.refl _ _) _⟩
                go_wp2
                go_ret2
                rw [HQ.out]
                exact ⟨rfl, HB.out⟩
          · have b1 : (rn : Int) < 48 := by omega
            have b3 : (rn : Int) < 65 := by omega
            have b5 : (rn : Int) < 97 := by omega
            clear a1
            have hdv : dg = -1 := by
              rw [← HD.out.1]
              unfold hexD
              rw [if_neg (by omega), if_neg (by omega), if_neg (by omega)]
            have HQ : Aside0 (hexAns s = (0, false)) := ⟨by rw [HA.out, ← HC.out.2.2.2, hexFrom_bad hp (by rw [HG.out]; omega)]⟩
            have HB : Aside0 (Below w.heap.size w (w.iter s (pos + kk))) := ⟨below_alloc (Below.refl _ _) _⟩
            go_wp2
            go_ret2
            rw [HQ.out]
            exact ⟨rfl, HB.out⟩
        · have hnx : ∀ ty, (Instr.next (.pointer (some ⟨w.heap.size, 0, none⟩)) true ty).run Tryd.prog (w.iter s pos) = _ := fun ty => run_next_end w s pos ty hp
          have HE : Aside0 (hexFrom s 0 0 = some n) := ⟨by rw [← HC.out.2.2.2, hexFrom_end hp]⟩
          have HB : Aside0 (Below w.heap.size w (w.iter s pos)) := ⟨below_alloc (Below.refl _ _) _⟩
          by_cases hm : (1114111 : Int) < n
          · have HQ : Aside0 (hexAns s = (0, false)) := ⟨by rw [HA.out, HE.out]; simp only; rw [if_pos hm]⟩
            go_wp2
            go_ret2
            rw [HQ.out]
            exact ⟨rfl, HB.out⟩
          · have HQ : Aside0 (hexAns s = (n, true)) := ⟨by rw [HA.out, HE.out]; simp only; rw [if_neg hm]⟩
            go_wp2
            go_ret2
            rw [HQ.out]
            exact ⟨rfl, HB.out⟩

end Go.Proofs.YtooehjbbphokbaaDoor
