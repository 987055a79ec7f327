/- Walk: the reference's Hex. -/
import Derived.Test.YtooehjbbphokbaaDoorBase
import Derived.Test.YtooehjbbphokbaaDoorLnHex
import Derived.Test.YtooehjbbphokbaaDoorProg
import Derived.Laws.RangeAny
import Derived.Laws.RangeString
import Derived.Laws.ShiftsVar
import Derived.LoopTactic
namespace Go.Proofs.YtooehjbbphokbaaDoor
set_option linter.unusedVariables false
set_option linter.unusedSimpArgs false
open Go.RowKit Go.Proofs.YtooehjbbphokbaaDoorW.PrintWords Go.Proofs.YtooehjbbphokbaaDoorW.PrintLast Go.Proofs.YtooehjbbphokbaaDoorW.PrintMore

set_option maxHeartbeats 4000000 in
set_option maxRecDepth 100000 in
theorem refHex_any (s : ByteArray) (w : World) :
    Calls Tryd.prog 15 #[.string s] w fun e w' => e = .returned (.tuple #[.int .i64 (hexAns s).1, .bool (hexAns s).2]) ∧ Below w.heap.size w w' := by
  by_cases h4 : (s.size : Int) < 4
  · have HA : Aside0 (hexAns s = (0, false)) := ⟨by unfold hexAns; rw [if_pos (.inl (by omega))]⟩
    go_enter Tryd.func15, Tryd.ntmps15
    go_wp2
    go_ret2
    rw [HA.out]
    exact ⟨rfl, Below.refl _ _⟩
  · by_cases h6 : (6 : Int) < s.size
    · have HA : Aside0 (hexAns s = (0, false)) := ⟨by unfold hexAns; rw [if_pos (.inr (by omega))]⟩
      go_enter Tryd.func15, Tryd.ntmps15
      go_wp2
      go_ret2
      rw [HA.out]
      exact ⟨rfl, Below.refl _ _⟩
    · have HA : Aside0 (hexAns s = match hexFrom s 0 0 with | none => (0, false) | some n => if 1114111 < n then (0, false) else (n, true)) := ⟨by unfold hexAns; rw [if_neg (by omega)]; rfl⟩
      go_enter Tryd.func15, Tryd.ntmps15
      go_wp2
      go_loopg [4, 5] s.size (fun gk x y w' => ∃ (pos : Nat) (n : Int), w' = w ∧ y = .int .i64 (pos : Int) ∧ x = .int .i64 n ∧ Aside0 (gk = s.size - pos ∧ pos ≤ s.size ∧ 0 ≤ n ∧ n < 16 ^ pos ∧ hexFrom s n pos = hexFrom s 0 0))
      case atStart => exact ⟨0, 0, rfl, rfl, rfl, ⟨by omega, by omega, by omega, by decide, rfl⟩⟩
      case round =>
        obtain ⟨pos, n, rfl, rfl, rfl, HC⟩ := hrel
        by_cases hp : pos < s.size
        · go_wp2
          all_goals first
            | (have hd : 0 ≤ hexD ((s[pos]'hp).toNat : Int) := by (unfold hexD; (repeat' split) <;> omega)
               go_roundg (gk - 1)
               case measure => have := HC.out; omega
               case rel =>
                 refine ⟨pos + 1, _, rfl, by go_num, rfl, ⟨hex_round2 hp h6 HC.out hd (fun hm => ?_)⟩⟩
                 have h0 := HC.out.2.2.1
                 unfold hexD wrap64
                 (repeat' split) <;> omega)
            | (have hd : hexD ((s[pos]'hp).toNat : Int) < 0 := by (unfold hexD; (repeat' split) <;> omega)
               have HQ : Aside0 (hexAns s = (0, false)) := ⟨by rw [HA.out, ← HC.out.2.2.2.2, hexFrom_bad hp hd]⟩
               go_ret2
               rw [HQ.out]
               exact ⟨rfl, Below.refl _ _⟩)
        · have HE : Aside0 (hexFrom s 0 0 = some n) := ⟨by rw [← HC.out.2.2.2.2, hexFrom_end hp]⟩
          by_cases hm : (1114111 : Int) < n
          · have HQ : Aside0 (hexAns s = (0, false)) := ⟨by rw [HA.out, HE.out]; simp only; rw [if_pos hm]⟩
            go_wp2
            go_ret2
            rw [HQ.out]
            exact ⟨rfl, Below.refl _ _⟩
          · have HQ : Aside0 (hexAns s = (n, true)) := ⟨by rw [HA.out, HE.out]; simp only; rw [if_neg hm]⟩
            go_wp2
            go_ret2
            rw [HQ.out]
            exact ⟨rfl, Below.refl _ _⟩

end Go.Proofs.YtooehjbbphokbaaDoor
