/- WMore, TkP, NdP, NdA, Base, TkB, TkE, TkL, TkC, TkD, NdB, NdC, TkJ, CkP. -/
import Derived.Test.YtkipjalfgdfaiaaGreatDoorWWords
import Derived.Test.YtkipjalfgdfaiaaGreatDoorWLast
import Derived.Test.YtkipjalfgdfaiaaGreatDoorProg
import Derived.Below
import Derived.Deep.Draws
import Derived.Deep.AppendLies
import Derived.Maps.AppendAt
import Derived.OwnWalk
import Derived.Laws.BytesArg
import Derived.Laws.MakeOwn
import Derived.Laws.OwnMore
import Derived.Deep.OwnRows
import Derived.Tactics
import Derived.Lib.ConvBytes
import Derived.Laws.Slices
import Derived.WalkKit
import Derived.KernelRfl
import Derived.RowKit3
import Derived.Deep.LoopGhost
import Derived.Deep.QuietTactic
import Derived.BigQuiet
import Derived.WideLaws
import Derived.Deep.DeepCutAuto
import Derived.Deep.CutBlock
import Derived.Deep.RegionHeld3
import Derived.Laws.Rows
import Derived.Lib.AppendStr
import Derived.ArgAppend
import Derived.Laws.IdiomCopy
import Derived.OrdersHeld
import Derived.Laws.BitsLemmas
import Derived.RowKit
import Derived.Test.YtkipjalfgdfaiaaGreatDoorWRepsOne
import Derived.WalkLawsBesides
import Derived.Lib.Bytes
namespace Go.Proofs.YtkipjalfgdfaiaaGreatDoorW.PrintMore
open Go.RowKit Go.Proofs.YtkipjalfgdfaiaaGreatDoorW.PrintWords
namespace Kd
open Go.Proofs.YtkipjalfgdfaiaaGreatDoorW.PrintWords.Kd
end Kd

namespace Kd
open Go.Proofs.YtkipjalfgdfaiaaGreatDoorW.PrintWords.Kd
end Kd
/-- 'max' and 'min' of two whole numbers. -/
theorem max2_int (k k' : IntKind) (x y : Int) : Builtin.max2 (.int k x) (.int k' y) = pure (.int k (if x < y then y else x)) := by simp only [Builtin.max2, gt_iff_lt]
theorem max_two (ats : Array TypeId) (ty : TypeId) (a b : Value) : Builtin.max_ ats ty #[a, b] = (Builtin.max2 a b >>= fun s => pure s) := by simp only [Builtin.max_, List.foldlM_cons, List.foldlM_nil]
end Go.Proofs.YtkipjalfgdfaiaaGreatDoorW.PrintMore
namespace Go.Proofs.YtkipjalfgdfaiaaGreatDoorW.PrintWords
open Go.RowKit
section
variable {P : Program} {ops : Array Oper} {rest : List Oper} {o : Oper} {a : Act} {Q : Exit → Act → World → Prop} {W : World}
/-- The operation is a call of this function (a cheap look ahead of a dear step). -/
theorem gate_callee {f : FuncId} {as_ : Array Operand} {ts : Array TypeId} (_ho : o.op = .call { callee := .value (.func f), args := as_, argTypes := ts }) (h : wpList P ops Q (o :: rest) a W) : wpList P ops Q (o :: rest) a W := h
end
/-- The greater of two whole numbers, as_ Go's max tells it. -/
def mx (a b : Int) : Int := if a < b then b else a
/-- A shift to the right: a count beyond the width leaves the sign. -/
def shr (k : IntKind) (x y : Int) : Int := x / 2 ^ min y.toNat k.bits
theorem shr_small {k : IntKind} {x y j : Int} (h : shr k x y = j) (hy : y ≤ k.bits) : x / 2 ^ y.toNat = j := by rw [← h]; unfold shr; rw [Nat.min_eq_left (by omega)]
namespace Kd
end Kd
end Go.Proofs.YtkipjalfgdfaiaaGreatDoorW.PrintWords
namespace Go.Proofs.YtkipjalfgdfaiaaGreatDoorW.PrintWords
open Go.RowKit
namespace Kd
end Kd
end Go.Proofs.YtkipjalfgdfaiaaGreatDoorW.PrintWords
namespace Go.Proofs.YtkipjalfgdfaiaaGreatDoor.PTk
open Go.RowKit Go.Proofs.YtkipjalfgdfaiaaGreatDoorW.PrintWords Go.Proofs.YtkipjalfgdfaiaaGreatDoorW.PrintLast Go.Proofs.YtkipjalfgdfaiaaGreatDoorW.PrintMore
set_option linter.unusedVariables false
set_option linter.unusedSimpArgs false



theorem info5 : (Tryz.prog.info? 5).map (fun i => (i.zero, i.size, i.bytes)) = some (some (.int .u8 0), 1, 1) := by kernel_rfl





section
mutual
def utf_Encode.j0 : Nat → Int → Bool → Option (List Int × Bool)
  | 0, _, _ => none
  | k + 1, x0, x18 => if x18 = true then (some (([] : List Int), false)) else (if x0 < 128 then (some ((([(x0) % 256] : List Int)), true)) else (utf_Encode.l0 k x0 1 2048))
def utf_Encode.j2 : Nat → Int → Int → Option (List Int × Bool)
  | 0, _, _ => none
  | k + 1, x0, x4 => if 0 ≤ (wrap64 (x4 + 1)) then (if (wrap64 (x4 + 1) : Int).toNat ≤ 281474976710656 then (utf_Encode.l1 k x0 x4 (List.replicate (wrap64 (x4 + 1) : Int).toNat 0) x4) else (none)) else (none)
def utf_Encode.l1 : Nat → Int → Int → List Int → Int → Option (List Int × Bool)
  | 0, _, _, _, _ => none
  | k + 1, x0, x4, x6, x7 => if x7 > 0 then (if 0 ≤ x7 then (if x7 < (x6.length : Int) then (utf_Encode.l1 k (x0 / 64) x4 (x6.set (x7 : Int).toNat (Go.bits .or .u8 128 ((Go.bits .and .i64 x0 63) % 256))) (wrap64 (x7 - 1))) else (none)) else (none)) else (if 0 ≤ x4 then (if 0 < (x6.length : Int) then (some ((x6.set (0 : Int).toNat (Go.bits .or .u8 ((Go.bits .and .i64 (shr .i64 3968 x4) 255) % 256) ((x0) % 256))), true)) else (none)) else (none))
def utf_Encode.l0 : Nat → Int → Int → Int → Option (List Int × Bool)
  | 0, _, _, _ => none
  | k + 1, x0, x4, x5 => if x0 ≥ x5 then (if x4 < 3 then (utf_Encode.l0 k x0 (wrap64 (x4 + 1)) (wrap64 (x5 * 32))) else (utf_Encode.j2 k x0 x4)) else (utf_Encode.j2 k x0 x4)
end
def utf_Encode.f (k : Nat) (a0 : Int) : Option (List Int × Bool) := if a0 < 0 then (utf_Encode.j0 k a0 true) else (if a0 > 1114111 then (utf_Encode.j0 k a0 true) else (utf_Encode.j0 k a0 ((a0 / 2048) == 27)))
set_option maxHeartbeats 8000000 in
set_option maxRecDepth 100000 in
theorem utf_Encode.calls (k : Nat) (a0 : Int) (r1 : List Int) (r2 : Bool) (w : World) (h : utf_Encode.f k a0 = some (r1, r2)) :
    Calls Tryz.prog 37 #[.int .i64 a0] w fun e w' => ∃ v0_ : Value, e = .returned (.tuple #[v0_, .bool r2]) ∧ Kd.R (Kd.int .u8) 5 w' w.heap.size (fun _ => True) v0_ r1 ∧ Below w.heap.size w w' := by
  have HB := Aside0.mk (Below.refl w.heap.size w)
  have H : (if a0 < 0 then (utf_Encode.j0 k a0 true) else (if a0 > 1114111 then (utf_Encode.j0 k a0 true) else (utf_Encode.j0 k a0 ((a0 / 2048) == 27)))) = some (r1, r2) := h
  clear h
  have HC2 := Aside0.mk H
  clear H
  go_enter Tryz.func37, Tryz.ntmps37
  go_upto_region 1 with (fail)
  go_cut [18] (fun v18 wc => ∃ (kq : Nat) (x18_1 : Bool), v18 = .bool x18_1 ∧ Aside0 (utf_Encode.j0 kq a0 x18_1 = some (r1, r2)) ∧ Aside0 (kq ≤ k) ∧ Aside0 (Below w.heap.size w wc))
  case first =>
    have H := HC2.out
    clear HC2
    by_cases c3 : a0 < 0
    · rw [if_pos c3] at H
      have c3b0 : decide (a0 < 0) = true := decide_eq_true c3
      clear c3
      (first | rw [c3b0] | (simp only [i64_w, i32_w]; rw [c3b0]) | skip)
      have H' := Aside0.mk H
      clear H
      go_wp2
      go_meet
      case rel => exact ⟨_, (true), (by first | rfl | (simp; done) | (simp [*]; done)), H', ⟨by first | omega | exact Nat.le_refl _⟩, ⟨by repeat (first | (with_reducible first | exact HB.out | apply below_alloc | apply pw_below_drewN | apply below_drew1) | exact HB.out)⟩⟩
    · rw [if_neg c3] at H
      have c3b0 : decide (a0 < 0) = false := decide_eq_false c3
      clear c3
      (first | rw [c3b0] | (simp only [i64_w, i32_w]; rw [c3b0]) | skip)
      by_cases c4 : a0 > 1114111
      · rw [if_pos c4] at H
        have c4b0 : decide (1114111 < a0) = true := decide_eq_true c4
        clear c4
        have H' := Aside0.mk H
        clear H
        go_wp2
        go_meet
        case rel => exact ⟨_, (true), (by first | rfl | (simp; done) | (simp [*]; done)), H', ⟨by first | omega | exact Nat.le_refl _⟩, ⟨by repeat (first | (with_reducible first | exact HB.out | apply below_alloc | apply pw_below_drewN | apply below_drew1) | exact HB.out)⟩⟩
      · rw [if_neg c4] at H
        have c4b0 : decide (1114111 < a0) = false := decide_eq_false c4
        clear c4
        have H' := Aside0.mk H
        clear H
        go_wp2
        go_meet
        case rel => exact ⟨_, (((a0 / 2048) == 27)), (by first | rfl | (simp; done) | (simp [*]; done)), H', ⟨by first | omega | exact Nat.le_refl _⟩, ⟨by repeat (first | (with_reducible first | exact HB.out | apply below_alloc | apply pw_below_drewN | apply below_drew1) | exact HB.out)⟩⟩
  case rest =>
    clear HC2
    try clear p2
    try clear c3
    try clear c3b0
    try clear c4
    try clear c4b0
    obtain ⟨kq, x18_1, rfl, HA, HJ1, HB⟩ := hcut
    cases kq with
    | zero => exact absurd HA.out (by simp [utf_Encode.j0])
    | succ kj1 =>
      have H := HA.out
      clear HA
      simp only [utf_Encode.j0] at H
      by_cases c5 : x18_1 = true
      · subst c5
        have H1 : (some (([] : List Int), false)) = some (r1, r2) := by rw [if_pos rfl] at H; exact H
        clear H
        have H := H1
        clear H1
        simp only [Option.some.injEq, Prod.mk.injEq] at H
        obtain ⟨rfl, rfl⟩ := H
        go_wp2
        go_ret2
        exact ⟨_, by first | rfl | (simp [errW_none, errW_some] <;> rfl) | (simp [*, errW_none, errW_some] <;> rfl), by first | exact Kd.R_nil _ _ _ _ _ | exact Kd.N_nil _ _ _ _ _ | exact Kd.V_nil _ _ _ _ _ | exact Kd.Q_nil _ _ _ _ _ | exact Kd.S_nil _ _ _ _ _, by repeat (first | (with_reducible first | exact HB.out | apply below_alloc | apply pw_below_drewN | apply below_drew1) | exact HB.out)⟩
      · replace c5 := Bool.eq_false_iff.mpr c5
        subst c5
        have H1 : (if a0 < 128 then (some ((([(a0) % 256] : List Int)), true)) else (utf_Encode.l0 kj1 a0 1 2048)) = some (r1, r2) := by rw [if_neg (show ¬ (false = true) by decide)] at H; exact H
        clear H
        have H := H1
        clear H1
        by_cases c6 : a0 < 128
        · rw [if_pos c6] at H
          have c6b0 : decide (a0 < 128) = true := decide_eq_true c6
          clear c6
          obtain ⟨y119, hy119⟩ : ∃ y_ : List Int, y_ = (([(a0) % 256] : List Int)) := ⟨_, rfl⟩
          replace H : (some (y119, true)) = some (r1, r2) := by first | (rw [hy119]; with_reducible exact H) | (have H2_ := (Option.bind_some _ _).symm.trans H; rw [hy119]; with_reducible exact H2_) | (have H2_ := (Option.bind_some _ _).symm.trans H; with_reducible exact H2_) | with_reducible exact H | (rw [hy119]; exact H) | exact H
          have Ny119 := Aside0.mk hy119
          clear hy119
          simp only [Option.some.injEq, Prod.mk.injEq] at H
          obtain ⟨rfl, rfl⟩ := H
          go_wp2_with (first | ((with_reducible refine gate_dst (N := 23) rfl ?_); refine Kd.R_lit (Kd.int .u8) _ 5 ?hg (N := 23) ?hd (xs := ([(a0) % 256] : List Int)) (inner := [.int .u8 ((a0) % 256)]) (ok := fun _ => True) (okp := fun _ => True) ?hr ?hp (fun _ hk => hk) trivial (Below.refl _ _) (Nat.le_refl _) (by simp) ?_; (case hd => rfl); (case hg => rfl); (case hr => first | (go_simp; done) | (go_simp; rfl)); (case hp => exact (Reps.one (show Kd.M (Kd.int .u8) _ _ _ ((a0) % 256) [.int .u8 ((a0) % 256)] from rfl) (Reps.none _ _))); intro v120 w7 ho8 hb hg_ hnew_; clear hg_ hnew_; (first | rw [← Ny119.out] at ho8 | (simp only [Int.reduceToNat] at ho8; rw [← Ny119.out] at ho8)); have n0_ := Aside0.mk (Kd.R_lower ho8 (below_size (by repeat (first | (with_reducible first | exact HB.out | apply below_alloc | apply pw_below_drewN | apply below_drew1) | exact HB.out)))); have n1_ := Aside0.mk (below_step (by repeat (first | (with_reducible first | exact HB.out | apply below_alloc | apply pw_below_drewN | apply below_drew1) | exact HB.out)) hb); clear HB; have HO121 := n0_; have HB := n1_; clear n0_ n1_; clear hb ho8))
          go_ret2
          exact ⟨_, by first | rfl | (simp [errW_none, errW_some] <;> rfl) | (simp [*, errW_none, errW_some] <;> rfl), by (with_reducible repeat (first | apply Kd.R_alloc | apply Kd.R_drewN | apply Kd.R_drew)); exact HO121.out, by repeat (first | (with_reducible first | exact HB.out | apply below_alloc | apply pw_below_drewN | apply below_drew1) | exact HB.out)⟩
        · rw [if_neg c6] at H
          have c6b0 : decide (a0 < 128) = false := decide_eq_false c6
          clear c6
          have HC9 := Aside0.mk H
          clear H
          go_upto_block 0 with (fail)
          go_cut [4] (fun v4 wc => ∃ (kq : Nat) (x4_8 : Int), v4 = .int .i64 x4_8 ∧ Aside0 (utf_Encode.j2 kq a0 x4_8 = some (r1, r2)) ∧ Aside0 (kq ≤ kj1) ∧ Aside0 (Below w.heap.size w wc))
          case first =>
            have H := HC9.out
            clear HC9
            have H' := Aside0.mk H
            clear H
            go_wp2
            go_loopg [4, 5] kj1 (fun kq v4 v5 w' => ∃ (x4_2 : Int) (x5_2 : Int), v4 = .int .i64 x4_2 ∧ v5 = .int .i64 x5_2 ∧ Aside0 (utf_Encode.l0 kq a0 x4_2 x5_2 = some (r1, r2)) ∧ Aside0 (kq ≤ kj1) ∧ Aside0 (Below w.heap.size w w'))
            case atStart => exact ⟨(1), (2048), (by first | rfl | (simp; done) | (simp [*]; done)), (by first | rfl | (simp; done) | (simp [*]; done)), H', ⟨Nat.le_refl _⟩, ⟨by repeat (first | (with_reducible first | exact HB.out | apply below_alloc | apply pw_below_drewN | apply below_drew1) | exact HB.out)⟩⟩
            case round =>
              clear H'
              try clear p2
              try clear c3
              try clear c3b0
              try clear c4
              try clear c4b0
              try clear c5
              try clear c6
              try clear c6b0
              try clear p2
              obtain ⟨x4_2, x5_2, rfl, rfl, HA, HK2, HB⟩ := hrel
              cases gk with
              | zero => exact absurd HA.out (by simp [utf_Encode.l0])
              | succ k2 =>
                have H := HA.out
                clear HA
                simp only [utf_Encode.l0] at H
                by_cases c10 : a0 ≥ x5_2
                · rw [if_pos c10] at H
                  have c10b0 : decide (x5_2 ≤ a0) = true := decide_eq_true c10
                  clear c10
                  (first | rw [c10b0] | (simp only [i64_w, i32_w]; rw [c10b0]) | skip)
                  by_cases c11 : x4_2 < 3
                  · rw [if_pos c11] at H
                    have c11b0 : decide (x4_2 < 3) = true := decide_eq_true c11
                    clear c11
                    have H' := Aside0.mk H
                    clear H
                    go_wp2
                    go_roundg k2
                    case measure => have := HJ1.out; have := HK2.out; omega
                    case rel => exact ⟨(wrap64 (x4_2 + 1)), (wrap64 (x5_2 * 32)), (by first | rfl | (simp; done) | (simp [*]; done)), (by first | rfl | (simp; done) | (simp [*]; done)), H', ⟨by have := HJ1.out; have := HK2.out; omega⟩, ⟨by repeat (first | (with_reducible first | exact HB.out | apply below_alloc | apply pw_below_drewN | apply below_drew1) | exact HB.out)⟩⟩
                  · rw [if_neg c11] at H
                    have c11b0 : decide (x4_2 < 3) = false := decide_eq_false c11
                    clear c11
                    have H' := Aside0.mk H
                    clear H
                    go_wp2
                    go_meet
                    case rel => exact ⟨_, (x4_2), (by first | rfl | (simp; done) | (simp [*]; done)), H', ⟨by have := HJ1.out; have := HK2.out; first | omega | exact Nat.le_refl _⟩, ⟨by repeat (first | (with_reducible first | exact HB.out | apply below_alloc | apply pw_below_drewN | apply below_drew1) | exact HB.out)⟩⟩
                · rw [if_neg c10] at H
                  have c10b0 : decide (x5_2 ≤ a0) = false := decide_eq_false c10
                  clear c10
                  (first | rw [c10b0] | (simp only [i64_w, i32_w]; rw [c10b0]) | skip)
                  have H' := Aside0.mk H
                  clear H
                  go_wp2
                  go_meet
                  case rel => exact ⟨_, (x4_2), (by first | rfl | (simp; done) | (simp [*]; done)), H', ⟨by have := HJ1.out; have := HK2.out; first | omega | exact Nat.le_refl _⟩, ⟨by repeat (first | (with_reducible first | exact HB.out | apply below_alloc | apply pw_below_drewN | apply below_drew1) | exact HB.out)⟩⟩
          case rest =>
            clear HC9
            try clear c1
            try clear p2
            try clear c3
            try clear c3b0
            try clear c4
            try clear c4b0
            try clear c5
            try clear c6
            try clear c6b0
            try clear p6
            try clear c10
            try clear c10b0
            try clear c11
            try clear c11b0
            try clear p2
            obtain ⟨kq, x4_8, rfl, HA, HJ8, HB⟩ := hcut
            cases kq with
            | zero => exact absurd HA.out (by simp [utf_Encode.j2])
            | succ kj8 =>
              have H := HA.out
              clear HA
              simp only [utf_Encode.j2] at H
              obtain ⟨ji12, hji12⟩ : ∃ j_ : Int, (wrap64 (x4_8 + 1)) = j_ := ⟨_, rfl⟩
              replace H : (if 0 ≤ (ji12) then (if (ji12 : Int).toNat ≤ 281474976710656 then (utf_Encode.l1 kj8 a0 x4_8 (List.replicate (ji12 : Int).toNat 0) x4_8) else (none)) else (none)) = some (r1, r2) := by first | (rw [hji12] at H; exact H) | (simp only [hji12] at H ⊢; exact H)
              have hji12w : (IntKind.i64.wrap (x4_8 + 1)) = ji12 := (i64_w _).trans hji12
              by_cases c13 : 0 ≤ (ji12)
              · rw [if_pos c13] at H
                have c13b0 := eq_true c13
                have c13b1 : decide (0 ≤ (ji12)) = true := decide_eq_true c13
                clear c13
                by_cases c14 : (ji12 : Int).toNat ≤ 281474976710656
                · rw [if_pos c14] at H
                  have c14b0 := eq_true c14
                  have c14b1 : decide ((ji12 : Int).toNat ≤ 281474976710656) = true := decide_eq_true c14
                  clear c14
                  obtain ⟨y122, hy122⟩ : ∃ y_ : List Int, y_ = (List.replicate (ji12 : Int).toNat 0) := ⟨_, rfl⟩
                  replace H : (utf_Encode.l1 kj8 a0 x4_8 y122 x4_8) = some (r1, r2) := by first | (rw [hy122]; with_reducible exact H) | (have H2_ := (Option.bind_some _ _).symm.trans H; rw [hy122]; with_reducible exact H2_) | (have H2_ := (Option.bind_some _ _).symm.trans H; with_reducible exact H2_) | with_reducible exact H | (rw [hy122]; exact H) | exact H
                  have Ny122 := Aside0.mk hy122
                  clear hy122
                  have H' := Aside0.mk H
                  clear H
                  go_wp2_with (first | ((with_reducible refine gate_dst (N := 37) rfl ?_); refine Kd.R_make (Kd.int .u8) _ 5 rfl (N := 37) rfl 34 _ _ rfl ji12 rfl rfl Tryz.underlying34 (.int .u8 0) 1 info5 rfl (by decide) (by omega) 0 (ok := fun _ => True) (okp := fun _ => True) rfl (fun _ hk => hk) trivial (of_decide_eq_true (by first | (with_reducible assumption) | assumption)) (Nat.le_trans (Nat.mul_le_mul_right _ (of_decide_eq_true (by first | (with_reducible assumption) | assumption) : ji12.toNat ≤ 281474976710656)) (by omega)) (Below.refl _ _) (Nat.le_refl _) ?_; intro v123 w15 ho16 hb hg_ hnew_; clear hg_ hnew_; (first | rw [← Ny122.out] at ho16 | (simp only [Int.reduceToNat] at ho16; rw [← Ny122.out] at ho16)); have n0_ := Aside0.mk (Kd.R_lower ho16 (below_size (by repeat (first | (with_reducible first | exact HB.out | apply below_alloc | apply pw_below_drewN | apply below_drew1) | exact HB.out)))); have n1_ := Aside0.mk (below_step (by repeat (first | (with_reducible first | exact HB.out | apply below_alloc | apply pw_below_drewN | apply below_drew1) | exact HB.out)) hb); clear HB; have HO124 := n0_; have HB := n1_; clear n0_ n1_; clear hb ho16))
                  go_loopg [0, 7] kj8 (fun kq v0 v7 w' => ∃ (x0_3 : Int) (x6_3 : List Int) (x7_3 : Int), v0 = .int .i64 x0_3 ∧ v7 = .int .i64 x7_3 ∧ Aside0 (utf_Encode.l1 kq x0_3 x4_8 x6_3 x7_3 = some (r1, r2)) ∧ Aside0 (kq ≤ kj8) ∧ Aside0 (Kd.R (Kd.int .u8) 5 w' w.heap.size (fun _ => True) v123 x6_3) ∧ Aside0 (Below w.heap.size w w'))
                  case atStart => exact ⟨(a0), (y122), (x4_8), (by first | rfl | (simp; done) | (simp [*]; done)), (by first | rfl | (simp; done) | (simp [*]; done)), H', ⟨Nat.le_refl _⟩, ⟨by (with_reducible repeat (first | apply Kd.R_alloc | apply Kd.R_drewN | apply Kd.R_drew)); exact HO124.out⟩, ⟨by repeat (first | (with_reducible first | exact HB.out | apply below_alloc | apply pw_below_drewN | apply below_drew1) | exact HB.out)⟩⟩
                  case round =>
                    clear H'
                    try clear c1
                    try clear p2
                    try clear c3
                    try clear c3b0
                    try clear c4
                    try clear c4b0
                    try clear c5
                    try clear c6
                    try clear c6b0
                    try clear p6
                    try clear c10
                    try clear c10b0
                    try clear c11
                    try clear c11b0
                    try clear c13
                    try clear c13b0
                    try clear c13b1
                    try clear c14
                    try clear c14b0
                    try clear c14b1
                    try clear p2
                    try clear p6
                    obtain ⟨x0_3, x6_3, x7_3, rfl, rfl, HA, HK3, HO_6, HB⟩ := hrel
                    cases gk with
                    | zero => exact absurd HA.out (by simp [utf_Encode.l1])
                    | succ k3 =>
                      have H := HA.out
                      clear HA
                      simp only [utf_Encode.l1] at H
                      by_cases c17 : x7_3 > 0
                      · rw [if_pos c17] at H
                        have c17b0 : decide (0 < x7_3) = true := decide_eq_true c17
                        clear c17
                        by_cases c18 : 0 ≤ x7_3
                        · rw [if_pos c18] at H
                          have c18b0 : decide (0 ≤ x7_3) = true := decide_eq_true c18
                          clear c18
                          by_cases c19 : x7_3 < (x6_3.length : Int)
                          · rw [if_pos c19] at H
                            have c19b0 : decide (x7_3 < (x6_3.length : Int)) = true := decide_eq_true c19
                            clear c19
                            obtain ⟨y125, hy125⟩ : ∃ y_ : List Int, y_ = (x6_3.set (x7_3 : Int).toNat (Go.bits .or .u8 128 ((Go.bits .and .i64 x0_3 63) % 256))) := ⟨_, rfl⟩
                            replace H : (utf_Encode.l1 k3 (x0_3 / 64) x4_8 y125 (wrap64 (x7_3 - 1))) = some (r1, r2) := by first | (rw [hy125]; with_reducible exact H) | (have H2_ := (Option.bind_some _ _).symm.trans H; rw [hy125]; with_reducible exact H2_) | (have H2_ := (Option.bind_some _ _).symm.trans H; with_reducible exact H2_) | with_reducible exact H | (rw [hy125]; exact H) | exact H
                            have Ny125 := Aside0.mk hy125
                            clear hy125
                            have H' := Aside0.mk H
                            clear H
                            have p20 : 0 ≤ (x7_3 : Int) := of_decide_eq_true (by first | (with_reducible assumption) | assumption)
                            have q20 : (x7_3 : Int) < ((x6_3.length : Int) : Int) := of_decide_eq_true (by first | (with_reducible assumption) | assumption)
                            obtain ⟨go20, co20, eo20, gb20, gl20, cl20, HG20⟩ := Kd.R_form HO_6.out (by omega)
                            (first | cases eo20 | (injection eo20 with ea_ en_ ec_; (first | subst ea_ | (injection ea_ with ea_; subst ea_)); subst ec_; clear en_))
                            have GB20 := Aside0.mk gb20
                            have GG20 := Aside0.mk HG20
                            clear gb20 gl20 HG20
                            obtain ⟨hx20_0, hf20_0⟩ := Kd.R_celln 0 HO_6.out (x7_3 : Int) p20 q20
                            replace p20 := eq_true p20
                            replace q20 := eq_true q20
                            have HP21 := Kd.R_putg HO_6.out (x7_3 : Int) (Go.bits .or .u8 128 ((Go.bits .and .i64 x0_3 63) % 256))
                            go_wp2_with (first | ((with_reducible refine gate_store (t := 5) (p := 49) rfl ?_); refine store_event (t := 5) (p := 49) (v := ?vo_w22) (w1 := (wr.setCell ⟨go20, (x7_3 : Int).toNat, none⟩ (.int .u8 (Go.bits .or .u8 128 ((Go.bits .and .i64 x0_3 63) % 256))))) ?hg ?ho ?hn ?hr ?_; (case ho => rfl); (case hg => rfl); (case hn => rfl); (case hr => first | (go_simp; done) | (go_simp; rfl)); intro w22 hw; have hg : wr.grownBy w22 (some go20) := (by rw [hw]; exact HP21.2); have hp_ : Kd.R (Kd.int .u8) 5 w22 w.heap.size (fun _ => True) (.slice (some ⟨go20, 0, none⟩) x6_3.length co20) y125 := (by rw [hw, Ny125.out]; exact HP21.1); clear HP21; have n0_ := Aside0.mk (hp_); have n1_ := Aside0.mk ((by rw [hw]; exact below_set (HB.out) GB20.out : Below w.heap.size w w22)); clear HO_6; clear HB; have HO_6 := n0_; have HB := n1_; clear n0_ n1_; clear hg hw hp_))
                            go_roundg k3
                            case measure => have := HJ1.out; have := HJ8.out; have := HK3.out; omega
                            case rel => exact ⟨(x0_3 / 64), (y125), (wrap64 (x7_3 - 1)), (by first | rfl | (simp; done) | (simp [*]; done)), (by first | rfl | (simp; done) | (simp [*]; done)), H', ⟨by have := HJ1.out; have := HJ8.out; have := HK3.out; omega⟩, ⟨by (with_reducible repeat (first | apply Kd.R_alloc | apply Kd.R_drewN | apply Kd.R_drew)); exact HO_6.out⟩, ⟨by repeat (first | (with_reducible first | exact HB.out | apply below_alloc | apply pw_below_drewN | apply below_drew1) | exact HB.out)⟩⟩
                          · rw [if_neg c19] at H
                            exact absurd H (by simp)
                        · rw [if_neg c18] at H
                          exact absurd H (by simp)
                      · rw [if_neg c17] at H
                        have c17b0 : decide (0 < x7_3) = false := decide_eq_false c17
                        clear c17
                        by_cases c23 : 0 ≤ x4_8
                        · rw [if_pos c23] at H
                          have c23b0 := eq_true c23
                          have c23b1 : decide (0 ≤ x4_8) = true := decide_eq_true c23
                          clear c23
                          obtain ⟨ji24, hji24⟩ : ∃ j_ : Int, (shr .i64 3968 x4_8) = j_ := ⟨_, rfl⟩
                          replace H : (if 0 < (x6_3.length : Int) then (some ((x6_3.set (0 : Int).toNat (Go.bits .or .u8 ((Go.bits .and .i64 (ji24) 255) % 256) ((x0_3) % 256))), true)) else (none)) = some (r1, r2) := by first | (rw [hji24] at H; exact H) | (simp only [hji24] at H ⊢; exact H)
                          have hji24_ : (3968 / 2 ^ min x4_8.toNat 64) = ji24 := hji24
                          have hji24z : x4_8 ≤ 64 → (3968 / 2 ^ x4_8.toNat) = ji24 := shr_small hji24
                          by_cases c25 : 0 < (x6_3.length : Int)
                          · rw [if_pos c25] at H
                            have c25b0 : decide (0 < (x6_3.length : Int)) = true := decide_eq_true c25
                            have c25b1 : decide (0 < x6_3.length) = true := decide_eq_true (by omega)
                            clear c25
                            obtain ⟨y126, hy126⟩ : ∃ y_ : List Int, y_ = (x6_3.set (0 : Int).toNat (Go.bits .or .u8 ((Go.bits .and .i64 (ji24) 255) % 256) ((x0_3) % 256))) := ⟨_, rfl⟩
                            replace H : (some (y126, true)) = some (r1, r2) := by first | (rw [hy126]; with_reducible exact H) | (have H2_ := (Option.bind_some _ _).symm.trans H; rw [hy126]; with_reducible exact H2_) | (have H2_ := (Option.bind_some _ _).symm.trans H; with_reducible exact H2_) | with_reducible exact H | (rw [hy126]; exact H) | exact H
                            have Ny126 := Aside0.mk hy126
                            clear hy126
                            simp only [Option.some.injEq, Prod.mk.injEq] at H
                            obtain ⟨rfl, rfl⟩ := H
                            have p26 : 0 ≤ (0 : Int) := (by omega)
                            have q26 : (0 : Int) < ((x6_3.length : Int) : Int) := of_decide_eq_true (by first | (with_reducible assumption) | assumption)
                            have qi26 : (0 < x6_3.length) = True := eq_true (by omega)
                            obtain ⟨go26, co26, eo26, gb26, gl26, cl26, HG26⟩ := Kd.R_form HO_6.out (by omega)
                            (first | cases eo26 | (injection eo26 with ea_ en_ ec_; (first | subst ea_ | (injection ea_ with ea_; subst ea_)); subst ec_; clear en_))
                            have GB26 := Aside0.mk gb26
                            have GG26 := Aside0.mk HG26
                            clear gb26 gl26 HG26
                            obtain ⟨hx26_0, hf26_0⟩ := Kd.R_celln 0 HO_6.out (0 : Int) p26 q26
                            (try rw [show ((0 : Int)).toNat = 0 from rfl] at hx26_0)
                            (try simp only [Nat.reduceMul, Nat.zero_mul, Nat.zero_add, Nat.reduceAdd] at hx26_0)
                            (try rw [show ((0 : Int)).toNat = 0 from rfl] at hf26_0)
                            (try simp only [Nat.reduceMul, Nat.zero_mul, Nat.zero_add, Nat.reduceAdd] at hf26_0)
                            replace p26 := eq_true p26
                            replace q26 := eq_true q26
                            have HP27 := Kd.R_putg HO_6.out (0 : Int) (Go.bits .or .u8 ((Go.bits .and .i64 (ji24) 255) % 256) ((x0_3) % 256))
                            go_wp2_with (first | ((with_reducible refine gate_store (t := 5) (p := 60) rfl ?_); refine store_event (t := 5) (p := 60) (v := ?vo_w28) (w1 := (wr.setCell ⟨go26, (0 : Int).toNat, none⟩ (.int .u8 (Go.bits .or .u8 ((Go.bits .and .i64 (ji24) 255) % 256) ((x0_3) % 256))))) ?hg ?ho ?hn ?hr ?_; (case ho => rfl); (case hg => rfl); (case hn => rfl); (case hr => first | (go_simp; done) | (go_simp; rfl)); intro w28 hw; have hg : wr.grownBy w28 (some go26) := (by rw [hw]; exact HP27.2); have hp_ : Kd.R (Kd.int .u8) 5 w28 w.heap.size (fun _ => True) (.slice (some ⟨go26, 0, none⟩) x6_3.length co26) y126 := (by rw [hw, Ny126.out]; exact HP27.1); clear HP27; have n0_ := Aside0.mk (hp_); have n1_ := Aside0.mk ((by rw [hw]; exact below_set (HB.out) GB26.out : Below w.heap.size w w28)); clear HO_6; clear HB; have HO_6 := n0_; have HB := n1_; clear n0_ n1_; clear hg hw hp_))
                            go_ret2
                            exact ⟨_, by first | rfl | (simp [errW_none, errW_some] <;> rfl) | (simp only [← hji12, ← hji24]; first | rfl | (simp [errW_none, errW_some] <;> rfl)) | (simp [*, errW_none, errW_some] <;> rfl), by (with_reducible repeat (first | apply Kd.R_alloc | apply Kd.R_drewN | apply Kd.R_drew)); exact HO_6.out, by repeat (first | (with_reducible first | exact HB.out | apply below_alloc | apply pw_below_drewN | apply below_drew1) | exact HB.out)⟩
                          · rw [if_neg c25] at H
                            exact absurd H (by simp)
                        · rw [if_neg c23] at H
                          exact absurd H (by simp)
                · rw [if_neg c14] at H
                  exact absurd H (by simp)
              · rw [if_neg c13] at H
                exact absurd H (by simp)



end


end Go.Proofs.YtkipjalfgdfaiaaGreatDoor.PTk
namespace Go.Proofs.YtkipjalfgdfaiaaGreatDoor.PTk
open Go.RowKit Go.Proofs.YtkipjalfgdfaiaaGreatDoorW.PrintWords Go.Proofs.YtkipjalfgdfaiaaGreatDoorW.PrintLast Go.Proofs.YtkipjalfgdfaiaaGreatDoorW.PrintMore
set_option linter.unusedVariables false
set_option linter.unusedSimpArgs false



structure S63 where
  f0 : Int
  f1 : Int
def z63 : S63 := ⟨(0 : Int), (0 : Int)⟩
def k63 : Kd S63 := Kd.iso (Kd.pair (Kd.int .i64) (Kd.int .i64)) (fun x : S63 => (x.f0, x.f1))
theorem k63_mk (w : World) (x : S63)  : k63.K w x [.int .i64 x.f0, .int .i64 x.f1] := ⟨[.int .i64 x.f0], [.int .i64 x.f1], rfl, rfl, rfl⟩
structure S25 where
  f0 : Int
  f1 : Int
  f2 : Int
  f3 : Int
  f4 : Bool
  f5 : ByteArray
  f6 : (List S63)
  f7 : (List S25)
def z25 : S25 := ⟨(0 : Int), (0 : Int), (0 : Int), (0 : Int), false, (⟨#[]⟩ : ByteArray), ([] : List S63), ([] : List S25)⟩
def F25 (d : Kd S25) : Kd S25 := Kd.iso (Kd.pair (Kd.int .i64) (Kd.pair (Kd.int .i64) (Kd.pair (Kd.int .i64) (Kd.pair (Kd.int .i64) (Kd.pair Kd.bool (Kd.pair Kd.string (Kd.pair (Kd.slice 63 k63) (Kd.slice 25 d)))))))) (fun x : S25 => (x.f0, x.f1, x.f2, x.f3, x.f4, x.f5, x.f6, x.f7))
theorem mono25 : Kd.Mono F25 := Kd.mono_iso _ (Kd.mono_pair (Kd.mono_const _) (Kd.mono_pair (Kd.mono_const _) (Kd.mono_pair (Kd.mono_const _) (Kd.mono_pair (Kd.mono_const _) (Kd.mono_pair (Kd.mono_const _) (Kd.mono_pair (Kd.mono_const _) (Kd.mono_pair (Kd.mono_const _) (Kd.mono_slice 25 Kd.mono_id))))))))
theorem sub25 : Kd.Sub F25 [25, 63] := Kd.sub_iso _ (Kd.sub_pair (Kd.sub_const _ (by decide)) (Kd.sub_pair (Kd.sub_const _ (by decide)) (Kd.sub_pair (Kd.sub_const _ (by decide)) (Kd.sub_pair (Kd.sub_const _ (by decide)) (Kd.sub_pair (Kd.sub_const _ (by decide)) (Kd.sub_pair (Kd.sub_const _ (by decide)) (Kd.sub_pair (Kd.sub_const _ (by decide)) (Kd.sub_slice 25 (by decide) Kd.sub_id))))))))
theorem sz25 : ∀ n, (Kd.upto F25 8 [25, 63] n).sz = 8 := Kd.upto_sz (fun _ => rfl)
def k25 : Kd S25 := Kd.fix F25 8 [25, 63] sz25 (Kd.upto_E sub25)
theorem k25_open {w : World} {x : S25} {cs : List Value} (h : k25.K w x cs) : ∃ A6 c6 A7 c7, cs = [.int .i64 x.f0, .int .i64 x.f1, .int .i64 x.f2, .int .i64 x.f3, .bool x.f4, .string x.f5, .slice A6 x.f6.length c6, .slice A7 x.f7.length c7] ∧ x.f6.length ≤ c6 ∧ k63.C w A6 x.f6.length x.f6 ∧ x.f7.length ≤ c7 ∧ k25.C w A7 x.f7.length x.f7 := by
  obtain ⟨n, h⟩ := h
  cases n with
  | zero => exact h.elim
  | succ n =>
    obtain ⟨_, _, rfl, rfl, ⟨_, _, rfl, rfl, ⟨_, _, rfl, rfl, ⟨_, _, rfl, rfl, ⟨_, _, rfl, rfl, ⟨_, _, rfl, rfl, ⟨_, _, rfl, ⟨A6, c6, rfl, l6, g6⟩, ⟨A7, c7, rfl, l7, g7⟩⟩⟩⟩⟩⟩⟩⟩ := h
    exact ⟨A6, c6, A7, c7, rfl, l6, g6, l7, Kd.fix_C g7⟩
theorem k25_mk (w : World) (x : S25) {A6 : Option Addr} {c6 : Nat} (l6 : x.f6.length ≤ c6) (g6 : k63.C w A6 x.f6.length x.f6) {A7 : Option Addr} {c7 : Nat} (l7 : x.f7.length ≤ c7) (g7 : k25.C w A7 x.f7.length x.f7) : k25.K w x [.int .i64 x.f0, .int .i64 x.f1, .int .i64 x.f2, .int .i64 x.f3, .bool x.f4, .string x.f5, .slice A6 x.f6.length c6, .slice A7 x.f7.length c7] := by
  obtain ⟨n7, q7⟩ := Kd.fix_C_back mono25 g7
  have r7 := Kd.upto_C_le mono25 sz25 (show n7 ≤ n7 by omega) q7
  exact ⟨n7 + 1, ⟨[.int .i64 x.f0], [.int .i64 x.f1, .int .i64 x.f2, .int .i64 x.f3, .bool x.f4, .string x.f5, .slice A6 x.f6.length c6, .slice A7 x.f7.length c7], rfl, rfl, ⟨[.int .i64 x.f1], [.int .i64 x.f2, .int .i64 x.f3, .bool x.f4, .string x.f5, .slice A6 x.f6.length c6, .slice A7 x.f7.length c7], rfl, rfl, ⟨[.int .i64 x.f2], [.int .i64 x.f3, .bool x.f4, .string x.f5, .slice A6 x.f6.length c6, .slice A7 x.f7.length c7], rfl, rfl, ⟨[.int .i64 x.f3], [.bool x.f4, .string x.f5, .slice A6 x.f6.length c6, .slice A7 x.f7.length c7], rfl, rfl, ⟨[.bool x.f4], [.string x.f5, .slice A6 x.f6.length c6, .slice A7 x.f7.length c7], rfl, rfl, ⟨[.string x.f5], [.slice A6 x.f6.length c6, .slice A7 x.f7.length c7], rfl, rfl, ⟨[.slice A6 x.f6.length c6], [.slice A7 x.f7.length c7], rfl, ⟨A6, c6, rfl, l6, g6⟩, ⟨A7, c7, rfl, l7, r7⟩⟩⟩⟩⟩⟩⟩⟩⟩
def rd_T25 (xs : List S25) (i : Int) : S25 := xs.getD i.toNat z25
theorem at_T25 {w : World} {A : Option Addr} {n : Nat} {xs : List S25} (h : Kd.C k25 w A n xs) (i : Int) (h0 : 0 ≤ i) (h1 : i < n) : ∃ ad A6 c6 A7 c7, A = some ad ∧ w.cell? (ad.add (i.toNat * 8)) = some (.int .i64 (rd_T25 xs i).f0) ∧ w.cell? ⟨(ad.add (i.toNat * 8)).block, (ad.add (i.toNat * 8)).off + 1, none⟩ = some (.int .i64 (rd_T25 xs i).f1) ∧ w.cell? ⟨(ad.add (i.toNat * 8)).block, (ad.add (i.toNat * 8)).off + 2, none⟩ = some (.int .i64 (rd_T25 xs i).f2) ∧ w.cell? ⟨(ad.add (i.toNat * 8)).block, (ad.add (i.toNat * 8)).off + 3, none⟩ = some (.int .i64 (rd_T25 xs i).f3) ∧ w.cell? ⟨(ad.add (i.toNat * 8)).block, (ad.add (i.toNat * 8)).off + 4, none⟩ = some (.bool (rd_T25 xs i).f4) ∧ w.cell? ⟨(ad.add (i.toNat * 8)).block, (ad.add (i.toNat * 8)).off + 5, none⟩ = some (.string (rd_T25 xs i).f5) ∧ w.cell? ⟨(ad.add (i.toNat * 8)).block, (ad.add (i.toNat * 8)).off + 6, none⟩ = some (.slice A6 (rd_T25 xs i).f6.length c6) ∧ w.cell? ⟨(ad.add (i.toNat * 8)).block, (ad.add (i.toNat * 8)).off + 7, none⟩ = some (.slice A7 (rd_T25 xs i).f7.length c7) ∧ (rd_T25 xs i).f6.length ≤ c6 ∧ k63.C w A6 (rd_T25 xs i).f6.length (rd_T25 xs i).f6 ∧ (rd_T25 xs i).f7.length ≤ c7 ∧ k25.C w A7 (rd_T25 xs i).f7.length (rd_T25 xs i).f7 := by
  obtain ⟨ad, c, e, _, hK, hc0⟩ := Kd.C_get h z25 i h0 h1
  have hc : ∀ j u, c[j]? = some u → w.cell? (ad.add (i.toNat * 8 + j)) = some u := hc0
  obtain ⟨A6, c6, A7, c7, rfl, l6, g6, l7, g7⟩ := k25_open hK
  exact ⟨ad, A6, c6, A7, c7, e, hc 0 _ rfl, by rw [← add_field _ _ 1 (by omega)]; exact hc 1 _ rfl, by rw [← add_field _ _ 2 (by omega)]; exact hc 2 _ rfl, by rw [← add_field _ _ 3 (by omega)]; exact hc 3 _ rfl, by rw [← add_field _ _ 4 (by omega)]; exact hc 4 _ rfl, by rw [← add_field _ _ 5 (by omega)]; exact hc 5 _ rfl, by rw [← add_field _ _ 6 (by omega)]; exact hc 6 _ rfl, by rw [← add_field _ _ 7 (by omega)]; exact hc 7 _ rfl, l6, g6, l7, g7⟩


section
mutual
def tree_Groups.l0 : Nat → Int → List (S25) → Int → Int → Int → Int → Int → Int → Bool → ByteArray → List (S63) → List (S25) → Option (Int)
  | 0, _, _, _, _, _, _, _, _, _, _, _, _ => none
  | k + 1, x3, x7, x8, x9, x193000, x193001, x193002, x193003, x193004, x193005, x193006, x193007 => if x9 < x8 then (if 0 ≤ x9 then (if x9 < (x7.length : Int) then ((tree_Groups.f k ((rd_T25 x7 x9).f0) ((rd_T25 x7 x9).f1) ((rd_T25 x7 x9).f2) ((rd_T25 x7 x9).f3) ((rd_T25 x7 x9).f4) ((rd_T25 x7 x9).f5) ((rd_T25 x7 x9).f6) ((rd_T25 x7 x9).f7)).bind fun t195 => (tree_Groups.l0 k (wrap64 (x3 + t195)) x7 x8 (wrap64 (x9 + 1)) x193000 x193001 x193002 x193003 x193004 x193005 x193006 x193007)) else (none)) else (none)) else (if x193000 = 9 then (if x193002 > 0 then (some (wrap64 (x3 + 1))) else (some x3)) else (some x3))
def tree_Groups.f : Nat → Int → Int → Int → Int → Bool → ByteArray → List (S63) → List (S25) → Option (Int)
  | 0, _, _, _, _, _, _, _, _ => none
  | k + 1, a0_0, a0_1, a0_2, a0_3, a0_4, a0_5, l0_6, l0_7 => tree_Groups.l0 k 0 l0_7 (l0_7.length : Int) 0 a0_0 a0_1 a0_2 a0_3 a0_4 a0_5 l0_6 l0_7
end
set_option maxHeartbeats 8000000 in
set_option maxRecDepth 100000 in
theorem tree_Groups.calls (k : Nat) : ∀ (a0_0 : Int) (a0_1 : Int) (a0_2 : Int) (a0_3 : Int) (a0_4 : Bool) (a0_5 : ByteArray) (A0_6 : Option Addr) (c0_6 : Nat) (l0_6 : List (S63)) (A0_7 : Option Addr) (c0_7 : Nat) (l0_7 : List (S25)) (r : Int) (w : World) (hr0_6 : Kd.C k63 w A0_6 l0_6.length l0_6) (hc0_6 : l0_6.length ≤ c0_6) (hr0_7 : Kd.C k25 w A0_7 l0_7.length l0_7) (hc0_7 : l0_7.length ≤ c0_7) (h : tree_Groups.f k a0_0 a0_1 a0_2 a0_3 a0_4 a0_5 l0_6 l0_7 = some r),
    Calls Tryz.prog 17 #[.agg #[.int .i64 a0_0, .int .i64 a0_1, .int .i64 a0_2, .int .i64 a0_3, .bool a0_4, .string a0_5, .slice A0_6 l0_6.length c0_6, .slice A0_7 l0_7.length c0_7]] w fun e w' => e = .returned (.int .i64 r) ∧ Below w.heap.size w w' := by
  induction k using Nat.strongRecOn with
  | _ k ih =>
  intro a0_0 a0_1 a0_2 a0_3 a0_4 a0_5 A0_6 c0_6 l0_6 A0_7 c0_7 l0_7 r w hr0_6 hc0_6 hr0_7 hc0_7 h
  cases k with
  | zero => exact absurd h (by simp [tree_Groups.f])
  | succ k =>
  simp only [tree_Groups.f] at h
  have hu25 := Tryz.underlying25
  have HR0_6 := Aside0.mk hr0_6
  have HC0_6 := Aside0.mk hc0_6
  clear hr0_6 hc0_6
  have HR0_7 := Aside0.mk hr0_7
  have HC0_7 := Aside0.mk hc0_7
  clear hr0_7 hc0_7
  have HB := Aside0.mk (Below.refl w.heap.size w)
  have H : (tree_Groups.l0 k 0 l0_7 (l0_7.length : Int) 0 a0_0 a0_1 a0_2 a0_3 a0_4 a0_5 l0_6 l0_7) = some r := h
  clear h
  have H' := Aside0.mk H
  clear H
  go_enter Tryz.func17, Tryz.ntmps17
  go_wp2_with (first | ((with_reducible refine gate_dst (N := 1) rfl ?_); refine box_event ?hg (N := 1) ?hd (cs := #[.int .i64 a0_0, .int .i64 a0_1, .int .i64 a0_2, .int .i64 a0_3, .bool a0_4, .string a0_5, .slice A0_6 l0_6.length c0_6, .slice A0_7 l0_7.length c0_7]) (t := 25) ?hr ?_; (case hd => rfl); (case hg => rfl); (case hr => first | (go_simp; done) | (go_simp; rfl)); intro gb192 hg w2 hbox hb; have n0_ := Aside0.mk (below_step (by repeat (first | (with_reducible first | exact HB.out | apply below_alloc | apply pw_below_drewN | apply below_drew1) | exact HB.out)) hb); have n1_ := Aside0.mk (hbox); have n2_ := Aside0.mk ((by rw [hg]; exact (below_size (by repeat (first | (with_reducible first | exact HB.out | apply below_alloc | apply pw_below_drewN | apply below_drew1) | exact HB.out))) : w.heap.size ≤ gb192)); have n3_ := Aside0.mk ((by rw [hg]; exact (below_size (by repeat (first | (with_reducible first | exact HB.out | apply below_alloc | apply pw_below_drewN | apply below_drew1) | exact HB.out))) : w.heap.size ≤ gb192)); clear HB; have HB := n0_; have BK192 := n1_; have GW192 := n2_; have GE192 := n3_; clear n0_ n1_ n2_ n3_; clear hb hbox hg; have hcz3_0 : w2.cell? ⟨gb192, 0, none⟩ = some (.int .i64 a0_0) := (blk_cell BK192.out 0).trans rfl; have hcz3_1 : w2.cell? ⟨gb192, 1, none⟩ = some (.int .i64 a0_1) := (blk_cell BK192.out 1).trans rfl; have hcz3_2 : w2.cell? ⟨gb192, 2, none⟩ = some (.int .i64 a0_2) := (blk_cell BK192.out 2).trans rfl; have hcz3_3 : w2.cell? ⟨gb192, 3, none⟩ = some (.int .i64 a0_3) := (blk_cell BK192.out 3).trans rfl; have hcz3_4 : w2.cell? ⟨gb192, 4, none⟩ = some (.bool a0_4) := (blk_cell BK192.out 4).trans rfl; have hcz3_5 : w2.cell? ⟨gb192, 5, none⟩ = some (.string a0_5) := (blk_cell BK192.out 5).trans rfl; have hcz3_6 : w2.cell? ⟨gb192, 6, none⟩ = some (.slice A0_6 l0_6.length c0_6) := (blk_cell BK192.out 6).trans rfl; have hcz3_7 : w2.cell? ⟨gb192, 7, none⟩ = some (.slice A0_7 l0_7.length c0_7) := (blk_cell BK192.out 7).trans rfl; have hfz3_0 := blk_frozen BK192.out 0; have hfz3_1 := blk_frozen BK192.out 1; have hfz3_2 := blk_frozen BK192.out 2; have hfz3_3 := blk_frozen BK192.out 3; have hfz3_4 := blk_frozen BK192.out 4; have hfz3_5 := blk_frozen BK192.out 5; have hfz3_6 := blk_frozen BK192.out 6; have hfz3_7 := blk_frozen BK192.out 7))
  go_loopg [3, 9] k (fun kq v3 v9 w' => ∃ (x3_1 : Int) (x9_1 : Int), v3 = .int .i64 x3_1 ∧ v9 = .int .i64 x9_1 ∧ Aside0 (tree_Groups.l0 kq x3_1 l0_7 (l0_7.length : Int) x9_1 a0_0 a0_1 a0_2 a0_3 a0_4 a0_5 l0_6 l0_7 = some r) ∧ Aside0 (kq ≤ k) ∧ Aside0 (w'.heap[gb192]? = some (.cells #[.int .i64 a0_0, .int .i64 a0_1, .int .i64 a0_2, .int .i64 a0_3, .bool a0_4, .string a0_5, (.slice A0_6 l0_6.length c0_6), (.slice A0_7 l0_7.length c0_7)] 25 (0, 0))) ∧ Aside0 (Below w.heap.size w w'))
  case atStart => exact ⟨(0), (0), (by first | rfl | (simp; done) | (simp [*]; done)), (by first | rfl | (simp; done) | (simp [*]; done)), H', ⟨Nat.le_refl _⟩, ⟨by (with_reducible repeat (first | refine blk_drewN ?_ _ | refine blk_drew ?_ | refine blk_alloc ?_ _)); exact BK192.out⟩, ⟨by repeat (first | (with_reducible first | exact HB.out | apply below_alloc | apply pw_below_drewN | apply below_drew1 | refine below_set ?_ GE192.out) | exact HB.out)⟩⟩
  case round =>
    clear H'
    try clear c1
    try clear p2
    try clear hcz3_0
    try clear hcz3_1
    try clear hcz3_2
    try clear hcz3_3
    try clear hcz3_4
    try clear hcz3_5
    try clear hcz3_6
    try clear hcz3_7
    try clear hfz3_0
    try clear hfz3_1
    try clear hfz3_2
    try clear hfz3_3
    try clear hfz3_4
    try clear hfz3_5
    try clear hfz3_6
    try clear hfz3_7
    obtain ⟨x3_1, x9_1, rfl, rfl, HA, HK1, BK192, HB⟩ := hrel
    cases gk with
    | zero => exact absurd HA.out (by simp [tree_Groups.l0])
    | succ k1 =>
      have H := HA.out
      clear HA
      simp only [tree_Groups.l0] at H
      by_cases c4 : x9_1 < (l0_7.length : Int)
      · rw [if_pos c4] at H
        have c4b0 : decide (x9_1 < (l0_7.length : Int)) = true := decide_eq_true c4
        clear c4
        by_cases c5 : 0 ≤ x9_1
        · rw [if_pos c5] at H
          have c5b0 : decide (0 ≤ x9_1) = true := decide_eq_true c5
          clear c5
          by_cases c6 : x9_1 < (l0_7.length : Int)
          · rw [if_pos c6] at H
            have c6b0 : decide (x9_1 < (l0_7.length : Int)) = true := decide_eq_true c6
            clear c6
            replace H := Option.bind_eq_some_iff.mp H
            obtain ⟨t195, A70, H⟩ := H
            replace H : (tree_Groups.l0 k1 (wrap64 (x3_1 + t195)) l0_7 (l0_7.length : Int) (wrap64 (x9_1 + 1)) a0_0 a0_1 a0_2 a0_3 a0_4 a0_5 l0_6 l0_7) = some r := H
            have A7 := Aside0.mk A70
            clear A70
            have H' := Aside0.mk H
            clear H
            have p193 : 0 ≤ (x9_1 : Int) := of_decide_eq_true (by first | (with_reducible assumption) | assumption)
            have q193 : x9_1 < (l0_7.length : Int) := of_decide_eq_true (by first | (with_reducible assumption) | assumption)
            obtain ⟨ad193, A193_6, c193_6, A193_7, c193_7, e193, hx193_0, hx193_1, hx193_2, hx193_3, hx193_4, hx193_5, hx193_6, hx193_7, hl193_6, hi193_6, hl193_7, hi193_7⟩ := at_T25 HR0_7.out x9_1 p193 q193
            cases e193
            replace hx193_0 := (HB.out.cell (World.block_lt_of_cell? w _ hx193_0)).trans hx193_0
            replace hx193_1 := (HB.out.cell (World.block_lt_of_cell? w _ hx193_1)).trans hx193_1
            replace hx193_2 := (HB.out.cell (World.block_lt_of_cell? w _ hx193_2)).trans hx193_2
            replace hx193_3 := (HB.out.cell (World.block_lt_of_cell? w _ hx193_3)).trans hx193_3
            replace hx193_4 := (HB.out.cell (World.block_lt_of_cell? w _ hx193_4)).trans hx193_4
            replace hx193_5 := (HB.out.cell (World.block_lt_of_cell? w _ hx193_5)).trans hx193_5
            replace hx193_6 := (HB.out.cell (World.block_lt_of_cell? w _ hx193_6)).trans hx193_6
            replace hx193_7 := (HB.out.cell (World.block_lt_of_cell? w _ hx193_7)).trans hx193_7
            have HR193_6 := Aside0.mk hi193_6
            have HC193_6 := Aside0.mk hl193_6
            clear hi193_6 hl193_6
            have HR193_7 := Aside0.mk hi193_7
            have HC193_7 := Aside0.mk hl193_7
            clear hi193_7 hl193_7
            replace p193 := eq_true p193
            replace q193 := eq_true q193
            go_wp2_with (first | ((with_reducible refine gate_dst (N := 5) rfl ?_); refine box_event ?hg (N := 5) ?hd (cs := #[.int .i64 0, .int .i64 0, .int .i64 0, .int .i64 0, .bool false, .string (⟨#[]⟩ : ByteArray), .slice none 0 0, .slice none 0 0]) (t := 25) ?hr ?_; (case hd => rfl); (case hg => rfl); (case hr => first | (go_simp; done) | (go_simp; rfl)); intro gb194 hg w8 hbox hb; have n0_ := Aside0.mk (blk_below (g := gb192) (o := .cells #[.int .i64 a0_0, .int .i64 a0_1, .int .i64 a0_2, .int .i64 a0_3, .bool a0_4, .string a0_5, .slice A0_6 l0_6.length c0_6, .slice (some ad193) l0_7.length c0_7] 25 (0, 0)) (by (with_reducible repeat (first | refine blk_drewN ?_ _ | refine blk_drew ?_ | refine blk_alloc ?_ _)); exact BK192.out) hb); have n1_ := Aside0.mk (below_step (by repeat (first | (with_reducible first | exact HB.out | apply below_alloc | apply pw_below_drewN | apply below_drew1 | refine below_set ?_ GE192.out) | exact HB.out)) hb); have n2_ := Aside0.mk (hbox); have n3_ := Aside0.mk ((by rw [hg]; exact (below_size (by repeat (first | (with_reducible first | exact HB.out | apply below_alloc | apply pw_below_drewN | apply below_drew1 | refine below_set ?_ GE192.out) | exact HB.out))) : w.heap.size ≤ gb194)); have n4_ := Aside0.mk ((by rw [hg]; exact (below_size (by repeat (first | (with_reducible first | exact HB.out | apply below_alloc | apply pw_below_drewN | apply below_drew1 | refine below_set ?_ GE192.out) | exact HB.out))) : w.heap.size ≤ gb194)); have n5_ := Aside0.mk ((by rw [hg]; exact Nat.ne_of_lt (blk_lt (g := gb192) (o := .cells #[.int .i64 a0_0, .int .i64 a0_1, .int .i64 a0_2, .int .i64 a0_3, .bool a0_4, .string a0_5, .slice A0_6 l0_6.length c0_6, .slice (some ad193) l0_7.length c0_7] 25 (0, 0)) (by (with_reducible repeat (first | refine blk_drewN ?_ _ | refine blk_drew ?_ | refine blk_alloc ?_ _)); exact BK192.out)) : gb192 ≠ gb194)); have n6_ := Aside0.mk ((by rw [hg]; exact Nat.ne_of_gt (blk_lt (g := gb192) (o := .cells #[.int .i64 a0_0, .int .i64 a0_1, .int .i64 a0_2, .int .i64 a0_3, .bool a0_4, .string a0_5, .slice A0_6 l0_6.length c0_6, .slice (some ad193) l0_7.length c0_7] 25 (0, 0)) (by (with_reducible repeat (first | refine blk_drewN ?_ _ | refine blk_drew ?_ | refine blk_alloc ?_ _)); exact BK192.out)) : gb194 ≠ gb192)); clear BK192; clear HB; have BK192 := n0_; have HB := n1_; have BK194 := n2_; have GW194 := n3_; have GE194 := n4_; have NB192_194 := n5_; have NB194_192 := n6_; clear n0_ n1_ n2_ n3_ n4_ n5_ n6_; clear hb hbox hg; have hnb9 := NB194_192.out; have hnc9 := NB192_194.out; have hcz10_0 : w8.cell? ⟨gb194, 0, none⟩ = some (.int .i64 0) := (blk_cell BK194.out 0).trans rfl; have hcz10_1 : w8.cell? ⟨gb194, 1, none⟩ = some (.int .i64 0) := (blk_cell BK194.out 1).trans rfl; have hcz10_2 : w8.cell? ⟨gb194, 2, none⟩ = some (.int .i64 0) := (blk_cell BK194.out 2).trans rfl; have hcz10_3 : w8.cell? ⟨gb194, 3, none⟩ = some (.int .i64 0) := (blk_cell BK194.out 3).trans rfl; have hcz10_4 : w8.cell? ⟨gb194, 4, none⟩ = some (.bool false) := (blk_cell BK194.out 4).trans rfl; have hcz10_5 : w8.cell? ⟨gb194, 5, none⟩ = some (.string (⟨#[]⟩ : ByteArray)) := (blk_cell BK194.out 5).trans rfl; have hcz10_6 : w8.cell? ⟨gb194, 6, none⟩ = some (.slice none 0 0) := (blk_cell BK194.out 6).trans rfl; have hcz10_7 : w8.cell? ⟨gb194, 7, none⟩ = some (.slice none 0 0) := (blk_cell BK194.out 7).trans rfl; have hfz10_0 := blk_frozen BK194.out 0; have hfz10_1 := blk_frozen BK194.out 1; have hfz10_2 := blk_frozen BK194.out 2; have hfz10_3 := blk_frozen BK194.out 3; have hfz10_4 := blk_frozen BK194.out 4; have hfz10_5 := blk_frozen BK194.out 5; have hfz10_6 := blk_frozen BK194.out 6; have hfz10_7 := blk_frozen BK194.out 7) | ((with_reducible refine gate_callee (f := 17) rfl ?_); refine goesL_ (some 15) rfl rfl Tryz.func17 (by kernel_rfl) rfl #[.agg #[.int .i64 ((rd_T25 l0_7 x9_1).f0), .int .i64 ((rd_T25 l0_7 x9_1).f1), .int .i64 ((rd_T25 l0_7 x9_1).f2), .int .i64 ((rd_T25 l0_7 x9_1).f3), .bool ((rd_T25 l0_7 x9_1).f4), .string ((rd_T25 l0_7 x9_1).f5), .slice A193_6 ((rd_T25 l0_7 x9_1).f6).length c193_6, .slice A193_7 ((rd_T25 l0_7 x9_1).f7).length c193_7]] rfl (by (try simp only [List.map_toArray, List.map_cons, List.map_nil]); first | done | rfl | (simp only [List.length_drop, List.length_take]; rfl)) ?_; (with_reducible refine (ih k1 (by have := HK1.out; omega) ((rd_T25 l0_7 x9_1).f0) ((rd_T25 l0_7 x9_1).f1) ((rd_T25 l0_7 x9_1).f2) ((rd_T25 l0_7 x9_1).f3) ((rd_T25 l0_7 x9_1).f4) ((rd_T25 l0_7 x9_1).f5) _ _ ((rd_T25 l0_7 x9_1).f6) _ _ ((rd_T25 l0_7 x9_1).f7) t195 _ ?side1 ?side2 ?side3 ?side4 A7.out).mono ?_); (case side1 => exact Kd.C_below HR193_6.out (by repeat (first | (with_reducible first | exact HB.out | apply below_alloc | apply pw_below_drewN | apply below_drew1 | refine below_set ?_ GE192.out | refine below_set ?_ GE194.out) | exact HB.out))); (case side2 => exact HC193_6.out); (case side3 => exact Kd.C_below HR193_7.out (by repeat (first | (with_reducible first | exact HB.out | apply below_alloc | apply pw_below_drewN | apply below_drew1 | refine below_set ?_ GE192.out | refine below_set ?_ GE194.out) | exact HB.out))); (case side4 => exact HC193_7.out); rintro e w11 ⟨rfl, hb⟩; refine ⟨_, rfl, ?_⟩; have n0_ := Aside0.mk (blk_below (g := gb192) (o := .cells #[.int .i64 a0_0, .int .i64 a0_1, .int .i64 a0_2, .int .i64 a0_3, .bool a0_4, .string a0_5, .slice A0_6 l0_6.length c0_6, .slice (some ad193) l0_7.length c0_7] 25 (0, 0)) (by (with_reducible repeat (first | refine blk_drewN ?_ _ | refine blk_drew ?_ | refine blk_alloc ?_ _)); refine blk_far ?_ NB192_194.out _; (with_reducible repeat (first | refine blk_drewN ?_ _ | refine blk_drew ?_ | refine blk_alloc ?_ _)); refine blk_far ?_ NB192_194.out _; (with_reducible repeat (first | refine blk_drewN ?_ _ | refine blk_drew ?_ | refine blk_alloc ?_ _)); refine blk_far ?_ NB192_194.out _; (with_reducible repeat (first | refine blk_drewN ?_ _ | refine blk_drew ?_ | refine blk_alloc ?_ _)); refine blk_far ?_ NB192_194.out _; (with_reducible repeat (first | refine blk_drewN ?_ _ | refine blk_drew ?_ | refine blk_alloc ?_ _)); refine blk_far ?_ NB192_194.out _; (with_reducible repeat (first | refine blk_drewN ?_ _ | refine blk_drew ?_ | refine blk_alloc ?_ _)); refine blk_far ?_ NB192_194.out _; (with_reducible repeat (first | refine blk_drewN ?_ _ | refine blk_drew ?_ | refine blk_alloc ?_ _)); refine blk_far ?_ NB192_194.out _; (with_reducible repeat (first | refine blk_drewN ?_ _ | refine blk_drew ?_ | refine blk_alloc ?_ _)); refine blk_far ?_ NB192_194.out _; (with_reducible repeat (first | refine blk_drewN ?_ _ | refine blk_drew ?_ | refine blk_alloc ?_ _)); exact BK192.out) hb); have n1_ := Aside0.mk (blk_below (g := gb194) (o := .cells #[.int .i64 ((rd_T25 l0_7 x9_1).f0), .int .i64 ((rd_T25 l0_7 x9_1).f1), .int .i64 ((rd_T25 l0_7 x9_1).f2), .int .i64 ((rd_T25 l0_7 x9_1).f3), .bool ((rd_T25 l0_7 x9_1).f4), .string ((rd_T25 l0_7 x9_1).f5), .slice A193_6 ((rd_T25 l0_7 x9_1).f6).length c193_6, .slice A193_7 ((rd_T25 l0_7 x9_1).f7).length c193_7] 25 (0, 0)) (by (with_reducible repeat (first | refine blk_drewN ?_ _ | refine blk_drew ?_ | refine blk_alloc ?_ _)); refine blk_put (cs := #[.int .i64 ((rd_T25 l0_7 x9_1).f0), .int .i64 ((rd_T25 l0_7 x9_1).f1), .int .i64 ((rd_T25 l0_7 x9_1).f2), .int .i64 ((rd_T25 l0_7 x9_1).f3), .bool ((rd_T25 l0_7 x9_1).f4), .string ((rd_T25 l0_7 x9_1).f5), .slice A193_6 ((rd_T25 l0_7 x9_1).f6).length c193_6, .slice none 0 0]) ?_ 7 _ rfl; (with_reducible repeat (first | refine blk_drewN ?_ _ | refine blk_drew ?_ | refine blk_alloc ?_ _)); refine blk_put (cs := #[.int .i64 ((rd_T25 l0_7 x9_1).f0), .int .i64 ((rd_T25 l0_7 x9_1).f1), .int .i64 ((rd_T25 l0_7 x9_1).f2), .int .i64 ((rd_T25 l0_7 x9_1).f3), .bool ((rd_T25 l0_7 x9_1).f4), .string ((rd_T25 l0_7 x9_1).f5), .slice none 0 0, .slice none 0 0]) ?_ 6 _ rfl; (with_reducible repeat (first | refine blk_drewN ?_ _ | refine blk_drew ?_ | refine blk_alloc ?_ _)); refine blk_put (cs := #[.int .i64 ((rd_T25 l0_7 x9_1).f0), .int .i64 ((rd_T25 l0_7 x9_1).f1), .int .i64 ((rd_T25 l0_7 x9_1).f2), .int .i64 ((rd_T25 l0_7 x9_1).f3), .bool ((rd_T25 l0_7 x9_1).f4), .string (⟨#[]⟩ : ByteArray), .slice none 0 0, .slice none 0 0]) ?_ 5 _ rfl; (with_reducible repeat (first | refine blk_drewN ?_ _ | refine blk_drew ?_ | refine blk_alloc ?_ _)); refine blk_put (cs := #[.int .i64 ((rd_T25 l0_7 x9_1).f0), .int .i64 ((rd_T25 l0_7 x9_1).f1), .int .i64 ((rd_T25 l0_7 x9_1).f2), .int .i64 ((rd_T25 l0_7 x9_1).f3), .bool false, .string (⟨#[]⟩ : ByteArray), .slice none 0 0, .slice none 0 0]) ?_ 4 _ rfl; (with_reducible repeat (first | refine blk_drewN ?_ _ | refine blk_drew ?_ | refine blk_alloc ?_ _)); refine blk_put (cs := #[.int .i64 ((rd_T25 l0_7 x9_1).f0), .int .i64 ((rd_T25 l0_7 x9_1).f1), .int .i64 ((rd_T25 l0_7 x9_1).f2), .int .i64 0, .bool false, .string (⟨#[]⟩ : ByteArray), .slice none 0 0, .slice none 0 0]) ?_ 3 _ rfl; (with_reducible repeat (first | refine blk_drewN ?_ _ | refine blk_drew ?_ | refine blk_alloc ?_ _)); refine blk_put (cs := #[.int .i64 ((rd_T25 l0_7 x9_1).f0), .int .i64 ((rd_T25 l0_7 x9_1).f1), .int .i64 0, .int .i64 0, .bool false, .string (⟨#[]⟩ : ByteArray), .slice none 0 0, .slice none 0 0]) ?_ 2 _ rfl; (with_reducible repeat (first | refine blk_drewN ?_ _ | refine blk_drew ?_ | refine blk_alloc ?_ _)); refine blk_put (cs := #[.int .i64 ((rd_T25 l0_7 x9_1).f0), .int .i64 0, .int .i64 0, .int .i64 0, .bool false, .string (⟨#[]⟩ : ByteArray), .slice none 0 0, .slice none 0 0]) ?_ 1 _ rfl; (with_reducible repeat (first | refine blk_drewN ?_ _ | refine blk_drew ?_ | refine blk_alloc ?_ _)); refine blk_put (cs := #[.int .i64 0, .int .i64 0, .int .i64 0, .int .i64 0, .bool false, .string (⟨#[]⟩ : ByteArray), .slice none 0 0, .slice none 0 0]) ?_ 0 _ rfl; (with_reducible repeat (first | refine blk_drewN ?_ _ | refine blk_drew ?_ | refine blk_alloc ?_ _)); exact BK194.out) hb); have n2_ := Aside0.mk (below_step (by repeat (first | (with_reducible first | exact HB.out | apply below_alloc | apply pw_below_drewN | apply below_drew1 | refine below_set ?_ GE192.out | refine below_set ?_ GE194.out) | exact HB.out)) hb); clear BK192; clear BK194; clear HB; have BK192 := n0_; have BK194 := n1_; have HB := n2_; clear n0_ n1_ n2_; (try clear hb); (try clear hb2); (try clear hk); (try clear hi)))
            go_roundg k1
            case measure => have := HK1.out; omega
            case rel => exact ⟨(wrap64 (x3_1 + t195)), (wrap64 (x9_1 + 1)), (by first | rfl | (simp; done) | (simp [*]; done)), (by first | rfl | (simp; done) | (simp [*]; done)), H', ⟨by have := HK1.out; omega⟩, ⟨by (with_reducible repeat (first | refine blk_drewN ?_ _ | refine blk_drew ?_ | refine blk_alloc ?_ _)); exact BK192.out⟩, ⟨by repeat (first | (with_reducible first | exact HB.out | apply below_alloc | apply pw_below_drewN | apply below_drew1 | refine below_set ?_ GE192.out | refine below_set ?_ GE194.out) | exact HB.out)⟩⟩
          · rw [if_neg c6] at H
            exact absurd H (by simp)
        · rw [if_neg c5] at H
          exact absurd H (by simp)
      · rw [if_neg c4] at H
        have c4b0 : decide (x9_1 < (l0_7.length : Int)) = false := decide_eq_false c4
        clear c4
        by_cases c12 : a0_0 = 9
        · rw [if_pos c12] at H
          have c12b0 : (a0_0 == 9) = true := beq_iff_eq.mpr c12
          have c12b1 : (a0_0 != 9) = false := bne_eq_false_iff_eq.mpr c12
          clear c12
          by_cases c13 : a0_2 > 0
          · rw [if_pos c13] at H
            have c13b0 : decide (0 < a0_2) = true := decide_eq_true c13
            clear c13
            obtain rfl := Option.some.inj H
            have hcz14_0 : wr.cell? ⟨gb192, 0, none⟩ = some (.int .i64 a0_0) := (blk_cell BK192.out 0).trans rfl
            have hcz14_1 : wr.cell? ⟨gb192, 1, none⟩ = some (.int .i64 a0_1) := (blk_cell BK192.out 1).trans rfl
            have hcz14_2 : wr.cell? ⟨gb192, 2, none⟩ = some (.int .i64 a0_2) := (blk_cell BK192.out 2).trans rfl
            have hcz14_3 : wr.cell? ⟨gb192, 3, none⟩ = some (.int .i64 a0_3) := (blk_cell BK192.out 3).trans rfl
            have hcz14_4 : wr.cell? ⟨gb192, 4, none⟩ = some (.bool a0_4) := (blk_cell BK192.out 4).trans rfl
            have hcz14_5 : wr.cell? ⟨gb192, 5, none⟩ = some (.string a0_5) := (blk_cell BK192.out 5).trans rfl
            have hcz14_6 : wr.cell? ⟨gb192, 6, none⟩ = some (.slice A0_6 l0_6.length c0_6) := (blk_cell BK192.out 6).trans rfl
            have hcz14_7 : wr.cell? ⟨gb192, 7, none⟩ = some (.slice A0_7 l0_7.length c0_7) := (blk_cell BK192.out 7).trans rfl
            have hfz14_0 := blk_frozen BK192.out 0
            have hfz14_1 := blk_frozen BK192.out 1
            have hfz14_2 := blk_frozen BK192.out 2
            have hfz14_3 := blk_frozen BK192.out 3
            have hfz14_4 := blk_frozen BK192.out 4
            have hfz14_5 := blk_frozen BK192.out 5
            have hfz14_6 := blk_frozen BK192.out 6
            have hfz14_7 := blk_frozen BK192.out 7
            go_wp2
            go_ret
            exact ⟨by first | rfl | (simp [errW_none, errW_some] <;> rfl) | (simp [*, errW_none, errW_some] <;> rfl), by repeat (first | (with_reducible first | exact HB.out | apply below_alloc | apply pw_below_drewN | apply below_drew1 | refine below_set ?_ GE192.out) | exact HB.out)⟩
          · rw [if_neg c13] at H
            have c13b0 : decide (0 < a0_2) = false := decide_eq_false c13
            clear c13
            obtain rfl := Option.some.inj H
            have hcz15_0 : wr.cell? ⟨gb192, 0, none⟩ = some (.int .i64 a0_0) := (blk_cell BK192.out 0).trans rfl
            have hcz15_1 : wr.cell? ⟨gb192, 1, none⟩ = some (.int .i64 a0_1) := (blk_cell BK192.out 1).trans rfl
            have hcz15_2 : wr.cell? ⟨gb192, 2, none⟩ = some (.int .i64 a0_2) := (blk_cell BK192.out 2).trans rfl
            have hcz15_3 : wr.cell? ⟨gb192, 3, none⟩ = some (.int .i64 a0_3) := (blk_cell BK192.out 3).trans rfl
            have hcz15_4 : wr.cell? ⟨gb192, 4, none⟩ = some (.bool a0_4) := (blk_cell BK192.out 4).trans rfl
            have hcz15_5 : wr.cell? ⟨gb192, 5, none⟩ = some (.string a0_5) := (blk_cell BK192.out 5).trans rfl
            have hcz15_6 : wr.cell? ⟨gb192, 6, none⟩ = some (.slice A0_6 l0_6.length c0_6) := (blk_cell BK192.out 6).trans rfl
            have hcz15_7 : wr.cell? ⟨gb192, 7, none⟩ = some (.slice A0_7 l0_7.length c0_7) := (blk_cell BK192.out 7).trans rfl
            have hfz15_0 := blk_frozen BK192.out 0
            have hfz15_1 := blk_frozen BK192.out 1
            have hfz15_2 := blk_frozen BK192.out 2
            have hfz15_3 := blk_frozen BK192.out 3
            have hfz15_4 := blk_frozen BK192.out 4
            have hfz15_5 := blk_frozen BK192.out 5
            have hfz15_6 := blk_frozen BK192.out 6
            have hfz15_7 := blk_frozen BK192.out 7
            go_wp2
            go_ret
            exact ⟨by first | rfl | (simp [errW_none, errW_some] <;> rfl) | (simp [*, errW_none, errW_some] <;> rfl), by repeat (first | (with_reducible first | exact HB.out | apply below_alloc | apply pw_below_drewN | apply below_drew1 | refine below_set ?_ GE192.out) | exact HB.out)⟩
        · rw [if_neg c12] at H
          have c12b0 : (a0_0 == 9) = false := beq_eq_false_iff_ne.mpr c12
          have c12b1 : (a0_0 != 9) = true := bne_iff_ne.mpr c12
          obtain rfl := Option.some.inj H
          have hcz16_0 : wr.cell? ⟨gb192, 0, none⟩ = some (.int .i64 a0_0) := (blk_cell BK192.out 0).trans rfl
          have hcz16_1 : wr.cell? ⟨gb192, 1, none⟩ = some (.int .i64 a0_1) := (blk_cell BK192.out 1).trans rfl
          have hcz16_2 : wr.cell? ⟨gb192, 2, none⟩ = some (.int .i64 a0_2) := (blk_cell BK192.out 2).trans rfl
          have hcz16_3 : wr.cell? ⟨gb192, 3, none⟩ = some (.int .i64 a0_3) := (blk_cell BK192.out 3).trans rfl
          have hcz16_4 : wr.cell? ⟨gb192, 4, none⟩ = some (.bool a0_4) := (blk_cell BK192.out 4).trans rfl
          have hcz16_5 : wr.cell? ⟨gb192, 5, none⟩ = some (.string a0_5) := (blk_cell BK192.out 5).trans rfl
          have hcz16_6 : wr.cell? ⟨gb192, 6, none⟩ = some (.slice A0_6 l0_6.length c0_6) := (blk_cell BK192.out 6).trans rfl
          have hcz16_7 : wr.cell? ⟨gb192, 7, none⟩ = some (.slice A0_7 l0_7.length c0_7) := (blk_cell BK192.out 7).trans rfl
          have hfz16_0 := blk_frozen BK192.out 0
          have hfz16_1 := blk_frozen BK192.out 1
          have hfz16_2 := blk_frozen BK192.out 2
          have hfz16_3 := blk_frozen BK192.out 3
          have hfz16_4 := blk_frozen BK192.out 4
          have hfz16_5 := blk_frozen BK192.out 5
          have hfz16_6 := blk_frozen BK192.out 6
          have hfz16_7 := blk_frozen BK192.out 7
          go_wp2
          go_ret
          exact ⟨by first | rfl | (simp [errW_none, errW_some] <;> rfl) | (simp [*, errW_none, errW_some] <;> rfl), by repeat (first | (with_reducible first | exact HB.out | apply below_alloc | apply pw_below_drewN | apply below_drew1 | refine below_set ?_ GE192.out) | exact HB.out)⟩


end

section
mutual
def tree_depth.l0 : Nat → Bool → Int → List (S25) → Int → Int → Int → Int → Int → Int → Bool → ByteArray → List (S63) → List (S25) → Option (Int)
  | 0, _, _, _, _, _, _, _, _, _, _, _, _, _ => none
  | k + 1, x1, x5, x9, x10, x11, x197000, x197001, x197002, x197003, x197004, x197005, x197006, x197007 => if x11 < x10 then (if 0 ≤ x11 then (if x11 < (x9.length : Int) then (if x197000 = 3 then ((tree_depth.f k ((rd_T25 x9 x11).f0) ((rd_T25 x9 x11).f1) ((rd_T25 x9 x11).f2) ((rd_T25 x9 x11).f3) ((rd_T25 x9 x11).f4) ((rd_T25 x9 x11).f5) ((rd_T25 x9 x11).f6) ((rd_T25 x9 x11).f7) (x197001 == 0)).bind fun t199 => (tree_depth.l0 k x1 (mx x5 t199) x9 x10 (wrap64 (x11 + 1)) x197000 x197001 x197002 x197003 x197004 x197005 x197006 x197007)) else ((tree_depth.f k ((rd_T25 x9 x11).f0) ((rd_T25 x9 x11).f1) ((rd_T25 x9 x11).f2) ((rd_T25 x9 x11).f3) ((rd_T25 x9 x11).f4) ((rd_T25 x9 x11).f5) ((rd_T25 x9 x11).f6) ((rd_T25 x9 x11).f7) true).bind fun t200 => (tree_depth.l0 k x1 (mx x5 t200) x9 x10 (wrap64 (x11 + 1)) x197000 x197001 x197002 x197003 x197004 x197005 x197006 x197007))) else (none)) else (none)) else (if x197000 = 3 then (if x1 = true then (some (wrap64 (x5 + 1))) else (some x5)) else (if x197000 = 9 then (some (wrap64 (x5 + 1))) else (if x197000 = 10 then (some (wrap64 (x5 + 1))) else (if x197000 = 11 then (some (wrap64 (x5 + 1))) else (some x5)))))
def tree_depth.f : Nat → Int → Int → Int → Int → Bool → ByteArray → List (S63) → List (S25) → Bool → Option (Int)
  | 0, _, _, _, _, _, _, _, _, _ => none
  | k + 1, a0_0, a0_1, a0_2, a0_3, a0_4, a0_5, l0_6, l0_7, a1 => tree_depth.l0 k a1 0 l0_7 (l0_7.length : Int) 0 a0_0 a0_1 a0_2 a0_3 a0_4 a0_5 l0_6 l0_7
end
set_option maxHeartbeats 8000000 in
set_option maxRecDepth 100000 in
theorem tree_depth.calls (k : Nat) : ∀ (a0_0 : Int) (a0_1 : Int) (a0_2 : Int) (a0_3 : Int) (a0_4 : Bool) (a0_5 : ByteArray) (A0_6 : Option Addr) (c0_6 : Nat) (l0_6 : List (S63)) (A0_7 : Option Addr) (c0_7 : Nat) (l0_7 : List (S25)) (a1 : Bool) (r : Int) (w : World) (hr0_6 : Kd.C k63 w A0_6 l0_6.length l0_6) (hc0_6 : l0_6.length ≤ c0_6) (hr0_7 : Kd.C k25 w A0_7 l0_7.length l0_7) (hc0_7 : l0_7.length ≤ c0_7) (h : tree_depth.f k a0_0 a0_1 a0_2 a0_3 a0_4 a0_5 l0_6 l0_7 a1 = some r),
    Calls Tryz.prog 33 #[.agg #[.int .i64 a0_0, .int .i64 a0_1, .int .i64 a0_2, .int .i64 a0_3, .bool a0_4, .string a0_5, .slice A0_6 l0_6.length c0_6, .slice A0_7 l0_7.length c0_7], .bool a1] w fun e w' => e = .returned (.int .i64 r) ∧ Below w.heap.size w w' := by
  induction k using Nat.strongRecOn with
  | _ k ih =>
  intro a0_0 a0_1 a0_2 a0_3 a0_4 a0_5 A0_6 c0_6 l0_6 A0_7 c0_7 l0_7 a1 r w hr0_6 hc0_6 hr0_7 hc0_7 h
  cases k with
  | zero => exact absurd h (by simp [tree_depth.f])
  | succ k =>
  simp only [tree_depth.f] at h
  have hu25 := Tryz.underlying25
  have HR0_6 := Aside0.mk hr0_6
  have HC0_6 := Aside0.mk hc0_6
  clear hr0_6 hc0_6
  have HR0_7 := Aside0.mk hr0_7
  have HC0_7 := Aside0.mk hc0_7
  clear hr0_7 hc0_7
  have HB := Aside0.mk (Below.refl w.heap.size w)
  have H : (tree_depth.l0 k a1 0 l0_7 (l0_7.length : Int) 0 a0_0 a0_1 a0_2 a0_3 a0_4 a0_5 l0_6 l0_7) = some r := h
  clear h
  have H' := Aside0.mk H
  clear H
  go_enter Tryz.func33, Tryz.ntmps33
  go_wp2_with (first | ((with_reducible refine gate_dst (N := 2) rfl ?_); refine box_event ?hg (N := 2) ?hd (cs := #[.int .i64 a0_0, .int .i64 a0_1, .int .i64 a0_2, .int .i64 a0_3, .bool a0_4, .string a0_5, .slice A0_6 l0_6.length c0_6, .slice A0_7 l0_7.length c0_7]) (t := 25) ?hr ?_; (case hd => rfl); (case hg => rfl); (case hr => first | (go_simp; done) | (go_simp; rfl)); intro gb196 hg w3 hbox hb; have n0_ := Aside0.mk (below_step (by repeat (first | (with_reducible first | exact HB.out | apply below_alloc | apply pw_below_drewN | apply below_drew1) | exact HB.out)) hb); have n1_ := Aside0.mk (hbox); have n2_ := Aside0.mk ((by rw [hg]; exact (below_size (by repeat (first | (with_reducible first | exact HB.out | apply below_alloc | apply pw_below_drewN | apply below_drew1) | exact HB.out))) : w.heap.size ≤ gb196)); have n3_ := Aside0.mk ((by rw [hg]; exact (below_size (by repeat (first | (with_reducible first | exact HB.out | apply below_alloc | apply pw_below_drewN | apply below_drew1) | exact HB.out))) : w.heap.size ≤ gb196)); clear HB; have HB := n0_; have BK196 := n1_; have GW196 := n2_; have GE196 := n3_; clear n0_ n1_ n2_ n3_; clear hb hbox hg; have hcz4_0 : w3.cell? ⟨gb196, 0, none⟩ = some (.int .i64 a0_0) := (blk_cell BK196.out 0).trans rfl; have hcz4_1 : w3.cell? ⟨gb196, 1, none⟩ = some (.int .i64 a0_1) := (blk_cell BK196.out 1).trans rfl; have hcz4_2 : w3.cell? ⟨gb196, 2, none⟩ = some (.int .i64 a0_2) := (blk_cell BK196.out 2).trans rfl; have hcz4_3 : w3.cell? ⟨gb196, 3, none⟩ = some (.int .i64 a0_3) := (blk_cell BK196.out 3).trans rfl; have hcz4_4 : w3.cell? ⟨gb196, 4, none⟩ = some (.bool a0_4) := (blk_cell BK196.out 4).trans rfl; have hcz4_5 : w3.cell? ⟨gb196, 5, none⟩ = some (.string a0_5) := (blk_cell BK196.out 5).trans rfl; have hcz4_6 : w3.cell? ⟨gb196, 6, none⟩ = some (.slice A0_6 l0_6.length c0_6) := (blk_cell BK196.out 6).trans rfl; have hcz4_7 : w3.cell? ⟨gb196, 7, none⟩ = some (.slice A0_7 l0_7.length c0_7) := (blk_cell BK196.out 7).trans rfl; have hfz4_0 := blk_frozen BK196.out 0; have hfz4_1 := blk_frozen BK196.out 1; have hfz4_2 := blk_frozen BK196.out 2; have hfz4_3 := blk_frozen BK196.out 3; have hfz4_4 := blk_frozen BK196.out 4; have hfz4_5 := blk_frozen BK196.out 5; have hfz4_6 := blk_frozen BK196.out 6; have hfz4_7 := blk_frozen BK196.out 7))
  go_loopg [5, 11] k (fun kq v5 v11 w' => ∃ (x5_1 : Int) (x11_1 : Int), v5 = .int .i64 x5_1 ∧ v11 = .int .i64 x11_1 ∧ Aside0 (tree_depth.l0 kq a1 x5_1 l0_7 (l0_7.length : Int) x11_1 a0_0 a0_1 a0_2 a0_3 a0_4 a0_5 l0_6 l0_7 = some r) ∧ Aside0 (kq ≤ k) ∧ Aside0 (w'.heap[gb196]? = some (.cells #[.int .i64 a0_0, .int .i64 a0_1, .int .i64 a0_2, .int .i64 a0_3, .bool a0_4, .string a0_5, (.slice A0_6 l0_6.length c0_6), (.slice A0_7 l0_7.length c0_7)] 25 (0, 0))) ∧ Aside0 (Below w.heap.size w w'))
  case atStart => exact ⟨(0), (0), (by first | rfl | (simp; done) | (simp [*]; done)), (by first | rfl | (simp; done) | (simp [*]; done)), H', ⟨Nat.le_refl _⟩, ⟨by (with_reducible repeat (first | refine blk_drewN ?_ _ | refine blk_drew ?_ | refine blk_alloc ?_ _)); exact BK196.out⟩, ⟨by repeat (first | (with_reducible first | exact HB.out | apply below_alloc | apply pw_below_drewN | apply below_drew1 | refine below_set ?_ GE196.out) | exact HB.out)⟩⟩
  case round =>
    clear H'
    try clear p2
    try clear c3
    try clear hcz4_0
    try clear hcz4_1
    try clear hcz4_2
    try clear hcz4_3
    try clear hcz4_4
    try clear hcz4_5
    try clear hcz4_6
    try clear hcz4_7
    try clear hfz4_0
    try clear hfz4_1
    try clear hfz4_2
    try clear hfz4_3
    try clear hfz4_4
    try clear hfz4_5
    try clear hfz4_6
    try clear hfz4_7
    obtain ⟨x5_1, x11_1, rfl, rfl, HA, HK1, BK196, HB⟩ := hrel
    cases gk with
    | zero => exact absurd HA.out (by simp [tree_depth.l0])
    | succ k1 =>
      have H := HA.out
      clear HA
      simp only [tree_depth.l0] at H
      by_cases c5 : x11_1 < (l0_7.length : Int)
      · rw [if_pos c5] at H
        have c5b0 : decide (x11_1 < (l0_7.length : Int)) = true := decide_eq_true c5
        clear c5
        by_cases c6 : 0 ≤ x11_1
        · rw [if_pos c6] at H
          have c6b0 : decide (0 ≤ x11_1) = true := decide_eq_true c6
          clear c6
          by_cases c7 : x11_1 < (l0_7.length : Int)
          · rw [if_pos c7] at H
            have c7b0 : decide (x11_1 < (l0_7.length : Int)) = true := decide_eq_true c7
            clear c7
            by_cases c8 : a0_0 = 3
            · rw [if_pos c8] at H
              have c8b0 : (a0_0 == 3) = true := beq_iff_eq.mpr c8
              have c8b1 : (a0_0 != 3) = false := bne_eq_false_iff_eq.mpr c8
              clear c8
              replace H := Option.bind_eq_some_iff.mp H
              obtain ⟨t199, A90, H⟩ := H
              replace H : (tree_depth.l0 k1 a1 (mx x5_1 t199) l0_7 (l0_7.length : Int) (wrap64 (x11_1 + 1)) a0_0 a0_1 a0_2 a0_3 a0_4 a0_5 l0_6 l0_7) = some r := H
              have A9 := Aside0.mk A90
              clear A90
              obtain ⟨ji10, hji10⟩ : ∃ j_ : Int, (mx x5_1 t199) = j_ := ⟨_, rfl⟩
              replace H : (tree_depth.l0 k1 a1 ji10 l0_7 (l0_7.length : Int) (wrap64 (x11_1 + 1)) a0_0 a0_1 a0_2 a0_3 a0_4 a0_5 l0_6 l0_7) = some r := by first | (rw [hji10] at H; exact H) | (simp only [hji10] at H ⊢; exact H)
              (try rw [hji10] at A9)
              have hji10_ : (if x5_1 < t199 then t199 else x5_1) = ji10 := hji10
              have H' := Aside0.mk H
              clear H
              have p197 : 0 ≤ (x11_1 : Int) := of_decide_eq_true (by first | (with_reducible assumption) | assumption)
              have q197 : x11_1 < (l0_7.length : Int) := of_decide_eq_true (by first | (with_reducible assumption) | assumption)
              obtain ⟨ad197, A197_6, c197_6, A197_7, c197_7, e197, hx197_0, hx197_1, hx197_2, hx197_3, hx197_4, hx197_5, hx197_6, hx197_7, hl197_6, hi197_6, hl197_7, hi197_7⟩ := at_T25 HR0_7.out x11_1 p197 q197
              cases e197
              replace hx197_0 := (HB.out.cell (World.block_lt_of_cell? w _ hx197_0)).trans hx197_0
              replace hx197_1 := (HB.out.cell (World.block_lt_of_cell? w _ hx197_1)).trans hx197_1
              replace hx197_2 := (HB.out.cell (World.block_lt_of_cell? w _ hx197_2)).trans hx197_2
              replace hx197_3 := (HB.out.cell (World.block_lt_of_cell? w _ hx197_3)).trans hx197_3
              replace hx197_4 := (HB.out.cell (World.block_lt_of_cell? w _ hx197_4)).trans hx197_4
              replace hx197_5 := (HB.out.cell (World.block_lt_of_cell? w _ hx197_5)).trans hx197_5
              replace hx197_6 := (HB.out.cell (World.block_lt_of_cell? w _ hx197_6)).trans hx197_6
              replace hx197_7 := (HB.out.cell (World.block_lt_of_cell? w _ hx197_7)).trans hx197_7
              have HR197_6 := Aside0.mk hi197_6
              have HC197_6 := Aside0.mk hl197_6
              clear hi197_6 hl197_6
              have HR197_7 := Aside0.mk hi197_7
              have HC197_7 := Aside0.mk hl197_7
              clear hi197_7 hl197_7
              replace p197 := eq_true p197
              replace q197 := eq_true q197
              go_wp2_with (first | ((with_reducible refine gate_dst (N := 7) rfl ?_); refine box_event ?hg (N := 7) ?hd (cs := #[.int .i64 0, .int .i64 0, .int .i64 0, .int .i64 0, .bool false, .string (⟨#[]⟩ : ByteArray), .slice none 0 0, .slice none 0 0]) (t := 25) ?hr ?_; (case hd => rfl); (case hg => rfl); (case hr => first | (go_simp; done) | (go_simp; rfl)); intro gb198 hg w11 hbox hb; have n0_ := Aside0.mk (blk_below (g := gb196) (o := .cells #[.int .i64 a0_0, .int .i64 a0_1, .int .i64 a0_2, .int .i64 a0_3, .bool a0_4, .string a0_5, .slice A0_6 l0_6.length c0_6, .slice (some ad197) l0_7.length c0_7] 25 (0, 0)) (by (with_reducible repeat (first | refine blk_drewN ?_ _ | refine blk_drew ?_ | refine blk_alloc ?_ _)); exact BK196.out) hb); have n1_ := Aside0.mk (below_step (by repeat (first | (with_reducible first | exact HB.out | apply below_alloc | apply pw_below_drewN | apply below_drew1 | refine below_set ?_ GE196.out) | exact HB.out)) hb); have n2_ := Aside0.mk (hbox); have n3_ := Aside0.mk ((by rw [hg]; exact (below_size (by repeat (first | (with_reducible first | exact HB.out | apply below_alloc | apply pw_below_drewN | apply below_drew1 | refine below_set ?_ GE196.out) | exact HB.out))) : w.heap.size ≤ gb198)); have n4_ := Aside0.mk ((by rw [hg]; exact (below_size (by repeat (first | (with_reducible first | exact HB.out | apply below_alloc | apply pw_below_drewN | apply below_drew1 | refine below_set ?_ GE196.out) | exact HB.out))) : w.heap.size ≤ gb198)); have n5_ := Aside0.mk ((by rw [hg]; exact Nat.ne_of_lt (blk_lt (g := gb196) (o := .cells #[.int .i64 a0_0, .int .i64 a0_1, .int .i64 a0_2, .int .i64 a0_3, .bool a0_4, .string a0_5, .slice A0_6 l0_6.length c0_6, .slice (some ad197) l0_7.length c0_7] 25 (0, 0)) (by (with_reducible repeat (first | refine blk_drewN ?_ _ | refine blk_drew ?_ | refine blk_alloc ?_ _)); exact BK196.out)) : gb196 ≠ gb198)); have n6_ := Aside0.mk ((by rw [hg]; exact Nat.ne_of_gt (blk_lt (g := gb196) (o := .cells #[.int .i64 a0_0, .int .i64 a0_1, .int .i64 a0_2, .int .i64 a0_3, .bool a0_4, .string a0_5, .slice A0_6 l0_6.length c0_6, .slice (some ad197) l0_7.length c0_7] 25 (0, 0)) (by (with_reducible repeat (first | refine blk_drewN ?_ _ | refine blk_drew ?_ | refine blk_alloc ?_ _)); exact BK196.out)) : gb198 ≠ gb196)); clear BK196; clear HB; have BK196 := n0_; have HB := n1_; have BK198 := n2_; have GW198 := n3_; have GE198 := n4_; have NB196_198 := n5_; have NB198_196 := n6_; clear n0_ n1_ n2_ n3_ n4_ n5_ n6_; clear hb hbox hg; have hnb12 := NB198_196.out; have hnc12 := NB196_198.out; have hcz13_0 : w11.cell? ⟨gb198, 0, none⟩ = some (.int .i64 0) := (blk_cell BK198.out 0).trans rfl; have hcz13_1 : w11.cell? ⟨gb198, 1, none⟩ = some (.int .i64 0) := (blk_cell BK198.out 1).trans rfl; have hcz13_2 : w11.cell? ⟨gb198, 2, none⟩ = some (.int .i64 0) := (blk_cell BK198.out 2).trans rfl; have hcz13_3 : w11.cell? ⟨gb198, 3, none⟩ = some (.int .i64 0) := (blk_cell BK198.out 3).trans rfl; have hcz13_4 : w11.cell? ⟨gb198, 4, none⟩ = some (.bool false) := (blk_cell BK198.out 4).trans rfl; have hcz13_5 : w11.cell? ⟨gb198, 5, none⟩ = some (.string (⟨#[]⟩ : ByteArray)) := (blk_cell BK198.out 5).trans rfl; have hcz13_6 : w11.cell? ⟨gb198, 6, none⟩ = some (.slice none 0 0) := (blk_cell BK198.out 6).trans rfl; have hcz13_7 : w11.cell? ⟨gb198, 7, none⟩ = some (.slice none 0 0) := (blk_cell BK198.out 7).trans rfl; have hfz13_0 := blk_frozen BK198.out 0; have hfz13_1 := blk_frozen BK198.out 1; have hfz13_2 := blk_frozen BK198.out 2; have hfz13_3 := blk_frozen BK198.out 3; have hfz13_4 := blk_frozen BK198.out 4; have hfz13_5 := blk_frozen BK198.out 5; have hfz13_6 := blk_frozen BK198.out 6; have hfz13_7 := blk_frozen BK198.out 7; have hcz14_0 : w11.cell? ⟨gb196, 0, none⟩ = some (.int .i64 a0_0) := (blk_cell BK196.out 0).trans rfl; have hcz14_1 : w11.cell? ⟨gb196, 1, none⟩ = some (.int .i64 a0_1) := (blk_cell BK196.out 1).trans rfl; have hcz14_2 : w11.cell? ⟨gb196, 2, none⟩ = some (.int .i64 a0_2) := (blk_cell BK196.out 2).trans rfl; have hcz14_3 : w11.cell? ⟨gb196, 3, none⟩ = some (.int .i64 a0_3) := (blk_cell BK196.out 3).trans rfl; have hcz14_4 : w11.cell? ⟨gb196, 4, none⟩ = some (.bool a0_4) := (blk_cell BK196.out 4).trans rfl; have hcz14_5 : w11.cell? ⟨gb196, 5, none⟩ = some (.string a0_5) := (blk_cell BK196.out 5).trans rfl; have hcz14_6 : w11.cell? ⟨gb196, 6, none⟩ = some (.slice A0_6 l0_6.length c0_6) := (blk_cell BK196.out 6).trans rfl; have hcz14_7 : w11.cell? ⟨gb196, 7, none⟩ = some (.slice (some ad197) l0_7.length c0_7) := (blk_cell BK196.out 7).trans rfl; have hfz14_0 := blk_frozen BK196.out 0; have hfz14_1 := blk_frozen BK196.out 1; have hfz14_2 := blk_frozen BK196.out 2; have hfz14_3 := blk_frozen BK196.out 3; have hfz14_4 := blk_frozen BK196.out 4; have hfz14_5 := blk_frozen BK196.out 5; have hfz14_6 := blk_frozen BK196.out 6; have hfz14_7 := blk_frozen BK196.out 7) | ((with_reducible refine gate_callee (f := 33) rfl ?_); refine goesL_ (some 25) rfl rfl Tryz.func33 (by kernel_rfl) rfl #[.agg #[.int .i64 ((rd_T25 l0_7 x11_1).f0), .int .i64 ((rd_T25 l0_7 x11_1).f1), .int .i64 ((rd_T25 l0_7 x11_1).f2), .int .i64 ((rd_T25 l0_7 x11_1).f3), .bool ((rd_T25 l0_7 x11_1).f4), .string ((rd_T25 l0_7 x11_1).f5), .slice A197_6 ((rd_T25 l0_7 x11_1).f6).length c197_6, .slice A197_7 ((rd_T25 l0_7 x11_1).f7).length c197_7], .bool (a0_1 == 0)] rfl (by (try simp only [List.map_toArray, List.map_cons, List.map_nil]); first | done | rfl | (simp only [List.length_drop, List.length_take]; rfl)) ?_; (with_reducible refine (ih k1 (by have := HK1.out; omega) ((rd_T25 l0_7 x11_1).f0) ((rd_T25 l0_7 x11_1).f1) ((rd_T25 l0_7 x11_1).f2) ((rd_T25 l0_7 x11_1).f3) ((rd_T25 l0_7 x11_1).f4) ((rd_T25 l0_7 x11_1).f5) _ _ ((rd_T25 l0_7 x11_1).f6) _ _ ((rd_T25 l0_7 x11_1).f7) (a0_1 == 0) t199 _ ?side1 ?side2 ?side3 ?side4 A9.out).mono ?_); (case side1 => exact Kd.C_below HR197_6.out (by repeat (first | (with_reducible first | exact HB.out | apply below_alloc | apply pw_below_drewN | apply below_drew1 | refine below_set ?_ GE196.out | refine below_set ?_ GE198.out) | exact HB.out))); (case side2 => exact HC197_6.out); (case side3 => exact Kd.C_below HR197_7.out (by repeat (first | (with_reducible first | exact HB.out | apply below_alloc | apply pw_below_drewN | apply below_drew1 | refine below_set ?_ GE196.out | refine below_set ?_ GE198.out) | exact HB.out))); (case side4 => exact HC197_7.out); rintro e w15 ⟨rfl, hb⟩; refine ⟨_, rfl, ?_⟩; have n0_ := Aside0.mk (blk_below (g := gb196) (o := .cells #[.int .i64 a0_0, .int .i64 a0_1, .int .i64 a0_2, .int .i64 a0_3, .bool a0_4, .string a0_5, .slice A0_6 l0_6.length c0_6, .slice (some ad197) l0_7.length c0_7] 25 (0, 0)) (by (with_reducible repeat (first | refine blk_drewN ?_ _ | refine blk_drew ?_ | refine blk_alloc ?_ _)); refine blk_far ?_ NB196_198.out _; (with_reducible repeat (first | refine blk_drewN ?_ _ | refine blk_drew ?_ | refine blk_alloc ?_ _)); refine blk_far ?_ NB196_198.out _; (with_reducible repeat (first | refine blk_drewN ?_ _ | refine blk_drew ?_ | refine blk_alloc ?_ _)); refine blk_far ?_ NB196_198.out _; (with_reducible repeat (first | refine blk_drewN ?_ _ | refine blk_drew ?_ | refine blk_alloc ?_ _)); refine blk_far ?_ NB196_198.out _; (with_reducible repeat (first | refine blk_drewN ?_ _ | refine blk_drew ?_ | refine blk_alloc ?_ _)); refine blk_far ?_ NB196_198.out _; (with_reducible repeat (first | refine blk_drewN ?_ _ | refine blk_drew ?_ | refine blk_alloc ?_ _)); refine blk_far ?_ NB196_198.out _; (with_reducible repeat (first | refine blk_drewN ?_ _ | refine blk_drew ?_ | refine blk_alloc ?_ _)); refine blk_far ?_ NB196_198.out _; (with_reducible repeat (first | refine blk_drewN ?_ _ | refine blk_drew ?_ | refine blk_alloc ?_ _)); refine blk_far ?_ NB196_198.out _; (with_reducible repeat (first | refine blk_drewN ?_ _ | refine blk_drew ?_ | refine blk_alloc ?_ _)); exact BK196.out) hb); have n1_ := Aside0.mk (blk_below (g := gb198) (o := .cells #[.int .i64 ((rd_T25 l0_7 x11_1).f0), .int .i64 ((rd_T25 l0_7 x11_1).f1), .int .i64 ((rd_T25 l0_7 x11_1).f2), .int .i64 ((rd_T25 l0_7 x11_1).f3), .bool ((rd_T25 l0_7 x11_1).f4), .string ((rd_T25 l0_7 x11_1).f5), .slice A197_6 ((rd_T25 l0_7 x11_1).f6).length c197_6, .slice A197_7 ((rd_T25 l0_7 x11_1).f7).length c197_7] 25 (0, 0)) (by (with_reducible repeat (first | refine blk_drewN ?_ _ | refine blk_drew ?_ | refine blk_alloc ?_ _)); refine blk_put (cs := #[.int .i64 ((rd_T25 l0_7 x11_1).f0), .int .i64 ((rd_T25 l0_7 x11_1).f1), .int .i64 ((rd_T25 l0_7 x11_1).f2), .int .i64 ((rd_T25 l0_7 x11_1).f3), .bool ((rd_T25 l0_7 x11_1).f4), .string ((rd_T25 l0_7 x11_1).f5), .slice A197_6 ((rd_T25 l0_7 x11_1).f6).length c197_6, .slice none 0 0]) ?_ 7 _ rfl; (with_reducible repeat (first | refine blk_drewN ?_ _ | refine blk_drew ?_ | refine blk_alloc ?_ _)); refine blk_put (cs := #[.int .i64 ((rd_T25 l0_7 x11_1).f0), .int .i64 ((rd_T25 l0_7 x11_1).f1), .int .i64 ((rd_T25 l0_7 x11_1).f2), .int .i64 ((rd_T25 l0_7 x11_1).f3), .bool ((rd_T25 l0_7 x11_1).f4), .string ((rd_T25 l0_7 x11_1).f5), .slice none 0 0, .slice none 0 0]) ?_ 6 _ rfl; (with_reducible repeat (first | refine blk_drewN ?_ _ | refine blk_drew ?_ | refine blk_alloc ?_ _)); refine blk_put (cs := #[.int .i64 ((rd_T25 l0_7 x11_1).f0), .int .i64 ((rd_T25 l0_7 x11_1).f1), .int .i64 ((rd_T25 l0_7 x11_1).f2), .int .i64 ((rd_T25 l0_7 x11_1).f3), .bool ((rd_T25 l0_7 x11_1).f4), .string (⟨#[]⟩ : ByteArray), .slice none 0 0, .slice none 0 0]) ?_ 5 _ rfl; (with_reducible repeat (first | refine blk_drewN ?_ _ | refine blk_drew ?_ | refine blk_alloc ?_ _)); refine blk_put (cs := #[.int .i64 ((rd_T25 l0_7 x11_1).f0), .int .i64 ((rd_T25 l0_7 x11_1).f1), .int .i64 ((rd_T25 l0_7 x11_1).f2), .int .i64 ((rd_T25 l0_7 x11_1).f3), .bool false, .string (⟨#[]⟩ : ByteArray), .slice none 0 0, .slice none 0 0]) ?_ 4 _ rfl; (with_reducible repeat (first | refine blk_drewN ?_ _ | refine blk_drew ?_ | refine blk_alloc ?_ _)); refine blk_put (cs := #[.int .i64 ((rd_T25 l0_7 x11_1).f0), .int .i64 ((rd_T25 l0_7 x11_1).f1), .int .i64 ((rd_T25 l0_7 x11_1).f2), .int .i64 0, .bool false, .string (⟨#[]⟩ : ByteArray), .slice none 0 0, .slice none 0 0]) ?_ 3 _ rfl; (with_reducible repeat (first | refine blk_drewN ?_ _ | refine blk_drew ?_ | refine blk_alloc ?_ _)); refine blk_put (cs := #[.int .i64 ((rd_T25 l0_7 x11_1).f0), .int .i64 ((rd_T25 l0_7 x11_1).f1), .int .i64 0, .int .i64 0, .bool false, .string (⟨#[]⟩ : ByteArray), .slice none 0 0, .slice none 0 0]) ?_ 2 _ rfl; (with_reducible repeat (first | refine blk_drewN ?_ _ | refine blk_drew ?_ | refine blk_alloc ?_ _)); refine blk_put (cs := #[.int .i64 ((rd_T25 l0_7 x11_1).f0), .int .i64 0, .int .i64 0, .int .i64 0, .bool false, .string (⟨#[]⟩ : ByteArray), .slice none 0 0, .slice none 0 0]) ?_ 1 _ rfl; (with_reducible repeat (first | refine blk_drewN ?_ _ | refine blk_drew ?_ | refine blk_alloc ?_ _)); refine blk_put (cs := #[.int .i64 0, .int .i64 0, .int .i64 0, .int .i64 0, .bool false, .string (⟨#[]⟩ : ByteArray), .slice none 0 0, .slice none 0 0]) ?_ 0 _ rfl; (with_reducible repeat (first | refine blk_drewN ?_ _ | refine blk_drew ?_ | refine blk_alloc ?_ _)); exact BK198.out) hb); have n2_ := Aside0.mk (below_step (by repeat (first | (with_reducible first | exact HB.out | apply below_alloc | apply pw_below_drewN | apply below_drew1 | refine below_set ?_ GE196.out | refine below_set ?_ GE198.out) | exact HB.out)) hb); clear BK196; clear BK198; clear HB; have BK196 := n0_; have BK198 := n1_; have HB := n2_; clear n0_ n1_ n2_; (try clear hb); (try clear hb2); (try clear hk); (try clear hi)))
              go_roundg k1
              case measure => have := HK1.out; omega
              case rel => exact ⟨(ji10), (wrap64 (x11_1 + 1)), (by first | rfl | (simp; done) | (simp only [← hji10] <;> (first | rfl | simp)) | (simp [*]; done)), (by first | rfl | (simp; done) | (simp [*]; done)), H', ⟨by have := HK1.out; omega⟩, ⟨by (with_reducible repeat (first | refine blk_drewN ?_ _ | refine blk_drew ?_ | refine blk_alloc ?_ _)); exact BK196.out⟩, ⟨by repeat (first | (with_reducible first | exact HB.out | apply below_alloc | apply pw_below_drewN | apply below_drew1 | refine below_set ?_ GE196.out | refine below_set ?_ GE198.out) | exact HB.out)⟩⟩
            · rw [if_neg c8] at H
              have c8b0 : (a0_0 == 3) = false := beq_eq_false_iff_ne.mpr c8
              have c8b1 : (a0_0 != 3) = true := bne_iff_ne.mpr c8
              replace H := Option.bind_eq_some_iff.mp H
              obtain ⟨t200, A160, H⟩ := H
              replace H : (tree_depth.l0 k1 a1 (mx x5_1 t200) l0_7 (l0_7.length : Int) (wrap64 (x11_1 + 1)) a0_0 a0_1 a0_2 a0_3 a0_4 a0_5 l0_6 l0_7) = some r := H
              have A16 := Aside0.mk A160
              clear A160
              obtain ⟨ji17, hji17⟩ : ∃ j_ : Int, (mx x5_1 t200) = j_ := ⟨_, rfl⟩
              replace H : (tree_depth.l0 k1 a1 ji17 l0_7 (l0_7.length : Int) (wrap64 (x11_1 + 1)) a0_0 a0_1 a0_2 a0_3 a0_4 a0_5 l0_6 l0_7) = some r := by first | (rw [hji17] at H; exact H) | (simp only [hji17] at H ⊢; exact H)
              (try rw [hji17] at A16)
              have hji17_ : (if x5_1 < t200 then t200 else x5_1) = ji17 := hji17
              have H' := Aside0.mk H
              clear H
              have p197 : 0 ≤ (x11_1 : Int) := of_decide_eq_true (by first | (with_reducible assumption) | assumption)
              have q197 : x11_1 < (l0_7.length : Int) := of_decide_eq_true (by first | (with_reducible assumption) | assumption)
              obtain ⟨ad197, A197_6, c197_6, A197_7, c197_7, e197, hx197_0, hx197_1, hx197_2, hx197_3, hx197_4, hx197_5, hx197_6, hx197_7, hl197_6, hi197_6, hl197_7, hi197_7⟩ := at_T25 HR0_7.out x11_1 p197 q197
              cases e197
              replace hx197_0 := (HB.out.cell (World.block_lt_of_cell? w _ hx197_0)).trans hx197_0
              replace hx197_1 := (HB.out.cell (World.block_lt_of_cell? w _ hx197_1)).trans hx197_1
              replace hx197_2 := (HB.out.cell (World.block_lt_of_cell? w _ hx197_2)).trans hx197_2
              replace hx197_3 := (HB.out.cell (World.block_lt_of_cell? w _ hx197_3)).trans hx197_3
              replace hx197_4 := (HB.out.cell (World.block_lt_of_cell? w _ hx197_4)).trans hx197_4
              replace hx197_5 := (HB.out.cell (World.block_lt_of_cell? w _ hx197_5)).trans hx197_5
              replace hx197_6 := (HB.out.cell (World.block_lt_of_cell? w _ hx197_6)).trans hx197_6
              replace hx197_7 := (HB.out.cell (World.block_lt_of_cell? w _ hx197_7)).trans hx197_7
              have HR197_6 := Aside0.mk hi197_6
              have HC197_6 := Aside0.mk hl197_6
              clear hi197_6 hl197_6
              have HR197_7 := Aside0.mk hi197_7
              have HC197_7 := Aside0.mk hl197_7
              clear hi197_7 hl197_7
              replace p197 := eq_true p197
              replace q197 := eq_true q197
              go_wp2_with (first | ((with_reducible refine gate_dst (N := 7) rfl ?_); refine box_event ?hg (N := 7) ?hd (cs := #[.int .i64 0, .int .i64 0, .int .i64 0, .int .i64 0, .bool false, .string (⟨#[]⟩ : ByteArray), .slice none 0 0, .slice none 0 0]) (t := 25) ?hr ?_; (case hd => rfl); (case hg => rfl); (case hr => first | (go_simp; done) | (go_simp; rfl)); intro gb198 hg w18 hbox hb; have n0_ := Aside0.mk (blk_below (g := gb196) (o := .cells #[.int .i64 a0_0, .int .i64 a0_1, .int .i64 a0_2, .int .i64 a0_3, .bool a0_4, .string a0_5, .slice A0_6 l0_6.length c0_6, .slice (some ad197) l0_7.length c0_7] 25 (0, 0)) (by (with_reducible repeat (first | refine blk_drewN ?_ _ | refine blk_drew ?_ | refine blk_alloc ?_ _)); exact BK196.out) hb); have n1_ := Aside0.mk (below_step (by repeat (first | (with_reducible first | exact HB.out | apply below_alloc | apply pw_below_drewN | apply below_drew1 | refine below_set ?_ GE196.out) | exact HB.out)) hb); have n2_ := Aside0.mk (hbox); have n3_ := Aside0.mk ((by rw [hg]; exact (below_size (by repeat (first | (with_reducible first | exact HB.out | apply below_alloc | apply pw_below_drewN | apply below_drew1 | refine below_set ?_ GE196.out) | exact HB.out))) : w.heap.size ≤ gb198)); have n4_ := Aside0.mk ((by rw [hg]; exact (below_size (by repeat (first | (with_reducible first | exact HB.out | apply below_alloc | apply pw_below_drewN | apply below_drew1 | refine below_set ?_ GE196.out) | exact HB.out))) : w.heap.size ≤ gb198)); have n5_ := Aside0.mk ((by rw [hg]; exact Nat.ne_of_lt (blk_lt (g := gb196) (o := .cells #[.int .i64 a0_0, .int .i64 a0_1, .int .i64 a0_2, .int .i64 a0_3, .bool a0_4, .string a0_5, .slice A0_6 l0_6.length c0_6, .slice (some ad197) l0_7.length c0_7] 25 (0, 0)) (by (with_reducible repeat (first | refine blk_drewN ?_ _ | refine blk_drew ?_ | refine blk_alloc ?_ _)); exact BK196.out)) : gb196 ≠ gb198)); have n6_ := Aside0.mk ((by rw [hg]; exact Nat.ne_of_gt (blk_lt (g := gb196) (o := .cells #[.int .i64 a0_0, .int .i64 a0_1, .int .i64 a0_2, .int .i64 a0_3, .bool a0_4, .string a0_5, .slice A0_6 l0_6.length c0_6, .slice (some ad197) l0_7.length c0_7] 25 (0, 0)) (by (with_reducible repeat (first | refine blk_drewN ?_ _ | refine blk_drew ?_ | refine blk_alloc ?_ _)); exact BK196.out)) : gb198 ≠ gb196)); clear BK196; clear HB; have BK196 := n0_; have HB := n1_; have BK198 := n2_; have GW198 := n3_; have GE198 := n4_; have NB196_198 := n5_; have NB198_196 := n6_; clear n0_ n1_ n2_ n3_ n4_ n5_ n6_; clear hb hbox hg; have hnb19 := NB198_196.out; have hnc19 := NB196_198.out; have hcz20_0 : w18.cell? ⟨gb198, 0, none⟩ = some (.int .i64 0) := (blk_cell BK198.out 0).trans rfl; have hcz20_1 : w18.cell? ⟨gb198, 1, none⟩ = some (.int .i64 0) := (blk_cell BK198.out 1).trans rfl; have hcz20_2 : w18.cell? ⟨gb198, 2, none⟩ = some (.int .i64 0) := (blk_cell BK198.out 2).trans rfl; have hcz20_3 : w18.cell? ⟨gb198, 3, none⟩ = some (.int .i64 0) := (blk_cell BK198.out 3).trans rfl; have hcz20_4 : w18.cell? ⟨gb198, 4, none⟩ = some (.bool false) := (blk_cell BK198.out 4).trans rfl; have hcz20_5 : w18.cell? ⟨gb198, 5, none⟩ = some (.string (⟨#[]⟩ : ByteArray)) := (blk_cell BK198.out 5).trans rfl; have hcz20_6 : w18.cell? ⟨gb198, 6, none⟩ = some (.slice none 0 0) := (blk_cell BK198.out 6).trans rfl; have hcz20_7 : w18.cell? ⟨gb198, 7, none⟩ = some (.slice none 0 0) := (blk_cell BK198.out 7).trans rfl; have hfz20_0 := blk_frozen BK198.out 0; have hfz20_1 := blk_frozen BK198.out 1; have hfz20_2 := blk_frozen BK198.out 2; have hfz20_3 := blk_frozen BK198.out 3; have hfz20_4 := blk_frozen BK198.out 4; have hfz20_5 := blk_frozen BK198.out 5; have hfz20_6 := blk_frozen BK198.out 6; have hfz20_7 := blk_frozen BK198.out 7; have hcz21_0 : w18.cell? ⟨gb196, 0, none⟩ = some (.int .i64 a0_0) := (blk_cell BK196.out 0).trans rfl; have hcz21_1 : w18.cell? ⟨gb196, 1, none⟩ = some (.int .i64 a0_1) := (blk_cell BK196.out 1).trans rfl; have hcz21_2 : w18.cell? ⟨gb196, 2, none⟩ = some (.int .i64 a0_2) := (blk_cell BK196.out 2).trans rfl; have hcz21_3 : w18.cell? ⟨gb196, 3, none⟩ = some (.int .i64 a0_3) := (blk_cell BK196.out 3).trans rfl; have hcz21_4 : w18.cell? ⟨gb196, 4, none⟩ = some (.bool a0_4) := (blk_cell BK196.out 4).trans rfl; have hcz21_5 : w18.cell? ⟨gb196, 5, none⟩ = some (.string a0_5) := (blk_cell BK196.out 5).trans rfl; have hcz21_6 : w18.cell? ⟨gb196, 6, none⟩ = some (.slice A0_6 l0_6.length c0_6) := (blk_cell BK196.out 6).trans rfl; have hcz21_7 : w18.cell? ⟨gb196, 7, none⟩ = some (.slice (some ad197) l0_7.length c0_7) := (blk_cell BK196.out 7).trans rfl; have hfz21_0 := blk_frozen BK196.out 0; have hfz21_1 := blk_frozen BK196.out 1; have hfz21_2 := blk_frozen BK196.out 2; have hfz21_3 := blk_frozen BK196.out 3; have hfz21_4 := blk_frozen BK196.out 4; have hfz21_5 := blk_frozen BK196.out 5; have hfz21_6 := blk_frozen BK196.out 6; have hfz21_7 := blk_frozen BK196.out 7) | ((with_reducible refine gate_callee (f := 33) rfl ?_); refine goesL_ (some 25) rfl rfl Tryz.func33 (by kernel_rfl) rfl #[.agg #[.int .i64 ((rd_T25 l0_7 x11_1).f0), .int .i64 ((rd_T25 l0_7 x11_1).f1), .int .i64 ((rd_T25 l0_7 x11_1).f2), .int .i64 ((rd_T25 l0_7 x11_1).f3), .bool ((rd_T25 l0_7 x11_1).f4), .string ((rd_T25 l0_7 x11_1).f5), .slice A197_6 ((rd_T25 l0_7 x11_1).f6).length c197_6, .slice A197_7 ((rd_T25 l0_7 x11_1).f7).length c197_7], .bool true] rfl (by (try simp only [List.map_toArray, List.map_cons, List.map_nil]); first | done | rfl | (simp only [List.length_drop, List.length_take]; rfl)) ?_; (with_reducible refine (ih k1 (by have := HK1.out; omega) ((rd_T25 l0_7 x11_1).f0) ((rd_T25 l0_7 x11_1).f1) ((rd_T25 l0_7 x11_1).f2) ((rd_T25 l0_7 x11_1).f3) ((rd_T25 l0_7 x11_1).f4) ((rd_T25 l0_7 x11_1).f5) _ _ ((rd_T25 l0_7 x11_1).f6) _ _ ((rd_T25 l0_7 x11_1).f7) true t200 _ ?side1 ?side2 ?side3 ?side4 A16.out).mono ?_); (case side1 => exact Kd.C_below HR197_6.out (by repeat (first | (with_reducible first | exact HB.out | apply below_alloc | apply pw_below_drewN | apply below_drew1 | refine below_set ?_ GE196.out | refine below_set ?_ GE198.out) | exact HB.out))); (case side2 => exact HC197_6.out); (case side3 => exact Kd.C_below HR197_7.out (by repeat (first | (with_reducible first | exact HB.out | apply below_alloc | apply pw_below_drewN | apply below_drew1 | refine below_set ?_ GE196.out | refine below_set ?_ GE198.out) | exact HB.out))); (case side4 => exact HC197_7.out); rintro e w22 ⟨rfl, hb⟩; refine ⟨_, rfl, ?_⟩; have n0_ := Aside0.mk (blk_below (g := gb196) (o := .cells #[.int .i64 a0_0, .int .i64 a0_1, .int .i64 a0_2, .int .i64 a0_3, .bool a0_4, .string a0_5, .slice A0_6 l0_6.length c0_6, .slice (some ad197) l0_7.length c0_7] 25 (0, 0)) (by (with_reducible repeat (first | refine blk_drewN ?_ _ | refine blk_drew ?_ | refine blk_alloc ?_ _)); refine blk_far ?_ NB196_198.out _; (with_reducible repeat (first | refine blk_drewN ?_ _ | refine blk_drew ?_ | refine blk_alloc ?_ _)); refine blk_far ?_ NB196_198.out _; (with_reducible repeat (first | refine blk_drewN ?_ _ | refine blk_drew ?_ | refine blk_alloc ?_ _)); refine blk_far ?_ NB196_198.out _; (with_reducible repeat (first | refine blk_drewN ?_ _ | refine blk_drew ?_ | refine blk_alloc ?_ _)); refine blk_far ?_ NB196_198.out _; (with_reducible repeat (first | refine blk_drewN ?_ _ | refine blk_drew ?_ | refine blk_alloc ?_ _)); refine blk_far ?_ NB196_198.out _; (with_reducible repeat (first | refine blk_drewN ?_ _ | refine blk_drew ?_ | refine blk_alloc ?_ _)); refine blk_far ?_ NB196_198.out _; (with_reducible repeat (first | refine blk_drewN ?_ _ | refine blk_drew ?_ | refine blk_alloc ?_ _)); refine blk_far ?_ NB196_198.out _; (with_reducible repeat (first | refine blk_drewN ?_ _ | refine blk_drew ?_ | refine blk_alloc ?_ _)); refine blk_far ?_ NB196_198.out _; (with_reducible repeat (first | refine blk_drewN ?_ _ | refine blk_drew ?_ | refine blk_alloc ?_ _)); exact BK196.out) hb); have n1_ := Aside0.mk (blk_below (g := gb198) (o := .cells #[.int .i64 ((rd_T25 l0_7 x11_1).f0), .int .i64 ((rd_T25 l0_7 x11_1).f1), .int .i64 ((rd_T25 l0_7 x11_1).f2), .int .i64 ((rd_T25 l0_7 x11_1).f3), .bool ((rd_T25 l0_7 x11_1).f4), .string ((rd_T25 l0_7 x11_1).f5), .slice A197_6 ((rd_T25 l0_7 x11_1).f6).length c197_6, .slice A197_7 ((rd_T25 l0_7 x11_1).f7).length c197_7] 25 (0, 0)) (by (with_reducible repeat (first | refine blk_drewN ?_ _ | refine blk_drew ?_ | refine blk_alloc ?_ _)); refine blk_put (cs := #[.int .i64 ((rd_T25 l0_7 x11_1).f0), .int .i64 ((rd_T25 l0_7 x11_1).f1), .int .i64 ((rd_T25 l0_7 x11_1).f2), .int .i64 ((rd_T25 l0_7 x11_1).f3), .bool ((rd_T25 l0_7 x11_1).f4), .string ((rd_T25 l0_7 x11_1).f5), .slice A197_6 ((rd_T25 l0_7 x11_1).f6).length c197_6, .slice none 0 0]) ?_ 7 _ rfl; (with_reducible repeat (first | refine blk_drewN ?_ _ | refine blk_drew ?_ | refine blk_alloc ?_ _)); refine blk_put (cs := #[.int .i64 ((rd_T25 l0_7 x11_1).f0), .int .i64 ((rd_T25 l0_7 x11_1).f1), .int .i64 ((rd_T25 l0_7 x11_1).f2), .int .i64 ((rd_T25 l0_7 x11_1).f3), .bool ((rd_T25 l0_7 x11_1).f4), .string ((rd_T25 l0_7 x11_1).f5), .slice none 0 0, .slice none 0 0]) ?_ 6 _ rfl; (with_reducible repeat (first | refine blk_drewN ?_ _ | refine blk_drew ?_ | refine blk_alloc ?_ _)); refine blk_put (cs := #[.int .i64 ((rd_T25 l0_7 x11_1).f0), .int .i64 ((rd_T25 l0_7 x11_1).f1), .int .i64 ((rd_T25 l0_7 x11_1).f2), .int .i64 ((rd_T25 l0_7 x11_1).f3), .bool ((rd_T25 l0_7 x11_1).f4), .string (⟨#[]⟩ : ByteArray), .slice none 0 0, .slice none 0 0]) ?_ 5 _ rfl; (with_reducible repeat (first | refine blk_drewN ?_ _ | refine blk_drew ?_ | refine blk_alloc ?_ _)); refine blk_put (cs := #[.int .i64 ((rd_T25 l0_7 x11_1).f0), .int .i64 ((rd_T25 l0_7 x11_1).f1), .int .i64 ((rd_T25 l0_7 x11_1).f2), .int .i64 ((rd_T25 l0_7 x11_1).f3), .bool false, .string (⟨#[]⟩ : ByteArray), .slice none 0 0, .slice none 0 0]) ?_ 4 _ rfl; (with_reducible repeat (first | refine blk_drewN ?_ _ | refine blk_drew ?_ | refine blk_alloc ?_ _)); refine blk_put (cs := #[.int .i64 ((rd_T25 l0_7 x11_1).f0), .int .i64 ((rd_T25 l0_7 x11_1).f1), .int .i64 ((rd_T25 l0_7 x11_1).f2), .int .i64 0, .bool false, .string (⟨#[]⟩ : ByteArray), .slice none 0 0, .slice none 0 0]) ?_ 3 _ rfl; (with_reducible repeat (first | refine blk_drewN ?_ _ | refine blk_drew ?_ | refine blk_alloc ?_ _)); refine blk_put (cs := #[.int .i64 ((rd_T25 l0_7 x11_1).f0), .int .i64 ((rd_T25 l0_7 x11_1).f1), .int .i64 0, .int .i64 0, .bool false, .string (⟨#[]⟩ : ByteArray), .slice none 0 0, .slice none 0 0]) ?_ 2 _ rfl; (with_reducible repeat (first | refine blk_drewN ?_ _ | refine blk_drew ?_ | refine blk_alloc ?_ _)); refine blk_put (cs := #[.int .i64 ((rd_T25 l0_7 x11_1).f0), .int .i64 0, .int .i64 0, .int .i64 0, .bool false, .string (⟨#[]⟩ : ByteArray), .slice none 0 0, .slice none 0 0]) ?_ 1 _ rfl; (with_reducible repeat (first | refine blk_drewN ?_ _ | refine blk_drew ?_ | refine blk_alloc ?_ _)); refine blk_put (cs := #[.int .i64 0, .int .i64 0, .int .i64 0, .int .i64 0, .bool false, .string (⟨#[]⟩ : ByteArray), .slice none 0 0, .slice none 0 0]) ?_ 0 _ rfl; (with_reducible repeat (first | refine blk_drewN ?_ _ | refine blk_drew ?_ | refine blk_alloc ?_ _)); exact BK198.out) hb); have n2_ := Aside0.mk (below_step (by repeat (first | (with_reducible first | exact HB.out | apply below_alloc | apply pw_below_drewN | apply below_drew1 | refine below_set ?_ GE196.out | refine below_set ?_ GE198.out) | exact HB.out)) hb); clear BK196; clear BK198; clear HB; have BK196 := n0_; have BK198 := n1_; have HB := n2_; clear n0_ n1_ n2_; (try clear hb); (try clear hb2); (try clear hk); (try clear hi)))
              go_roundg k1
              case measure => have := HK1.out; omega
              case rel => exact ⟨(ji17), (wrap64 (x11_1 + 1)), (by first | rfl | (simp; done) | (simp only [← hji17] <;> (first | rfl | simp)) | (simp [*]; done)), (by first | rfl | (simp; done) | (simp [*]; done)), H', ⟨by have := HK1.out; omega⟩, ⟨by (with_reducible repeat (first | refine blk_drewN ?_ _ | refine blk_drew ?_ | refine blk_alloc ?_ _)); exact BK196.out⟩, ⟨by repeat (first | (with_reducible first | exact HB.out | apply below_alloc | apply pw_below_drewN | apply below_drew1 | refine below_set ?_ GE196.out | refine below_set ?_ GE198.out) | exact HB.out)⟩⟩
          · rw [if_neg c7] at H
            exact absurd H (by simp)
        · rw [if_neg c6] at H
          exact absurd H (by simp)
      · rw [if_neg c5] at H
        have c5b0 : decide (x11_1 < (l0_7.length : Int)) = false := decide_eq_false c5
        clear c5
        by_cases c23 : a0_0 = 3
        · rw [if_pos c23] at H
          have c23b0 : (a0_0 == 3) = true := beq_iff_eq.mpr c23
          have c23b1 : (a0_0 != 3) = false := bne_eq_false_iff_eq.mpr c23
          clear c23
          by_cases c24 : a1 = true
          · subst c24
            have H1 : (some (wrap64 (x5_1 + 1))) = some r := by rw [if_pos rfl] at H; exact H
            clear H
            have H := H1
            clear H1
            obtain rfl := Option.some.inj H
            have hcz25_0 : wr.cell? ⟨gb196, 0, none⟩ = some (.int .i64 a0_0) := (blk_cell BK196.out 0).trans rfl
            have hcz25_1 : wr.cell? ⟨gb196, 1, none⟩ = some (.int .i64 a0_1) := (blk_cell BK196.out 1).trans rfl
            have hcz25_2 : wr.cell? ⟨gb196, 2, none⟩ = some (.int .i64 a0_2) := (blk_cell BK196.out 2).trans rfl
            have hcz25_3 : wr.cell? ⟨gb196, 3, none⟩ = some (.int .i64 a0_3) := (blk_cell BK196.out 3).trans rfl
            have hcz25_4 : wr.cell? ⟨gb196, 4, none⟩ = some (.bool a0_4) := (blk_cell BK196.out 4).trans rfl
            have hcz25_5 : wr.cell? ⟨gb196, 5, none⟩ = some (.string a0_5) := (blk_cell BK196.out 5).trans rfl
            have hcz25_6 : wr.cell? ⟨gb196, 6, none⟩ = some (.slice A0_6 l0_6.length c0_6) := (blk_cell BK196.out 6).trans rfl
            have hcz25_7 : wr.cell? ⟨gb196, 7, none⟩ = some (.slice A0_7 l0_7.length c0_7) := (blk_cell BK196.out 7).trans rfl
            have hfz25_0 := blk_frozen BK196.out 0
            have hfz25_1 := blk_frozen BK196.out 1
            have hfz25_2 := blk_frozen BK196.out 2
            have hfz25_3 := blk_frozen BK196.out 3
            have hfz25_4 := blk_frozen BK196.out 4
            have hfz25_5 := blk_frozen BK196.out 5
            have hfz25_6 := blk_frozen BK196.out 6
            have hfz25_7 := blk_frozen BK196.out 7
            go_wp2
            go_ret
            exact ⟨by first | rfl | (simp [errW_none, errW_some] <;> rfl) | (simp [*, errW_none, errW_some] <;> rfl), by repeat (first | (with_reducible first | exact HB.out | apply below_alloc | apply pw_below_drewN | apply below_drew1 | refine below_set ?_ GE196.out) | exact HB.out)⟩
          · replace c24 := Bool.eq_false_iff.mpr c24
            subst c24
            have H1 : (some x5_1) = some r := by rw [if_neg (show ¬ (false = true) by decide)] at H; exact H
            clear H
            have H := H1
            clear H1
            obtain rfl := Option.some.inj H
            have hcz26_0 : wr.cell? ⟨gb196, 0, none⟩ = some (.int .i64 a0_0) := (blk_cell BK196.out 0).trans rfl
            have hcz26_1 : wr.cell? ⟨gb196, 1, none⟩ = some (.int .i64 a0_1) := (blk_cell BK196.out 1).trans rfl
            have hcz26_2 : wr.cell? ⟨gb196, 2, none⟩ = some (.int .i64 a0_2) := (blk_cell BK196.out 2).trans rfl
            have hcz26_3 : wr.cell? ⟨gb196, 3, none⟩ = some (.int .i64 a0_3) := (blk_cell BK196.out 3).trans rfl
            have hcz26_4 : wr.cell? ⟨gb196, 4, none⟩ = some (.bool a0_4) := (blk_cell BK196.out 4).trans rfl
            have hcz26_5 : wr.cell? ⟨gb196, 5, none⟩ = some (.string a0_5) := (blk_cell BK196.out 5).trans rfl
            have hcz26_6 : wr.cell? ⟨gb196, 6, none⟩ = some (.slice A0_6 l0_6.length c0_6) := (blk_cell BK196.out 6).trans rfl
            have hcz26_7 : wr.cell? ⟨gb196, 7, none⟩ = some (.slice A0_7 l0_7.length c0_7) := (blk_cell BK196.out 7).trans rfl
            have hfz26_0 := blk_frozen BK196.out 0
            have hfz26_1 := blk_frozen BK196.out 1
            have hfz26_2 := blk_frozen BK196.out 2
            have hfz26_3 := blk_frozen BK196.out 3
            have hfz26_4 := blk_frozen BK196.out 4
            have hfz26_5 := blk_frozen BK196.out 5
            have hfz26_6 := blk_frozen BK196.out 6
            have hfz26_7 := blk_frozen BK196.out 7
            go_wp2
            go_ret
            exact ⟨by first | rfl | (simp [errW_none, errW_some] <;> rfl) | (simp [*, errW_none, errW_some] <;> rfl), by repeat (first | (with_reducible first | exact HB.out | apply below_alloc | apply pw_below_drewN | apply below_drew1 | refine below_set ?_ GE196.out) | exact HB.out)⟩
        · rw [if_neg c23] at H
          have c23b0 : (a0_0 == 3) = false := beq_eq_false_iff_ne.mpr c23
          have c23b1 : (a0_0 != 3) = true := bne_iff_ne.mpr c23
          by_cases c27 : a0_0 = 9
          · rw [if_pos c27] at H
            have c27b0 : (a0_0 == 9) = true := beq_iff_eq.mpr c27
            have c27b1 : (a0_0 != 9) = false := bne_eq_false_iff_eq.mpr c27
            clear c27
            obtain rfl := Option.some.inj H
            have hcz28_0 : wr.cell? ⟨gb196, 0, none⟩ = some (.int .i64 a0_0) := (blk_cell BK196.out 0).trans rfl
            have hcz28_1 : wr.cell? ⟨gb196, 1, none⟩ = some (.int .i64 a0_1) := (blk_cell BK196.out 1).trans rfl
            have hcz28_2 : wr.cell? ⟨gb196, 2, none⟩ = some (.int .i64 a0_2) := (blk_cell BK196.out 2).trans rfl
            have hcz28_3 : wr.cell? ⟨gb196, 3, none⟩ = some (.int .i64 a0_3) := (blk_cell BK196.out 3).trans rfl
            have hcz28_4 : wr.cell? ⟨gb196, 4, none⟩ = some (.bool a0_4) := (blk_cell BK196.out 4).trans rfl
            have hcz28_5 : wr.cell? ⟨gb196, 5, none⟩ = some (.string a0_5) := (blk_cell BK196.out 5).trans rfl
            have hcz28_6 : wr.cell? ⟨gb196, 6, none⟩ = some (.slice A0_6 l0_6.length c0_6) := (blk_cell BK196.out 6).trans rfl
            have hcz28_7 : wr.cell? ⟨gb196, 7, none⟩ = some (.slice A0_7 l0_7.length c0_7) := (blk_cell BK196.out 7).trans rfl
            have hfz28_0 := blk_frozen BK196.out 0
            have hfz28_1 := blk_frozen BK196.out 1
            have hfz28_2 := blk_frozen BK196.out 2
            have hfz28_3 := blk_frozen BK196.out 3
            have hfz28_4 := blk_frozen BK196.out 4
            have hfz28_5 := blk_frozen BK196.out 5
            have hfz28_6 := blk_frozen BK196.out 6
            have hfz28_7 := blk_frozen BK196.out 7
            go_wp2
            go_ret
            exact ⟨by first | rfl | (simp [errW_none, errW_some] <;> rfl) | (simp [*, errW_none, errW_some] <;> rfl), by repeat (first | (with_reducible first | exact HB.out | apply below_alloc | apply pw_below_drewN | apply below_drew1 | refine below_set ?_ GE196.out) | exact HB.out)⟩
          · rw [if_neg c27] at H
            have c27b0 : (a0_0 == 9) = false := beq_eq_false_iff_ne.mpr c27
            have c27b1 : (a0_0 != 9) = true := bne_iff_ne.mpr c27
            by_cases c29 : a0_0 = 10
            · rw [if_pos c29] at H
              have c29b0 : (a0_0 == 10) = true := beq_iff_eq.mpr c29
              have c29b1 : (a0_0 != 10) = false := bne_eq_false_iff_eq.mpr c29
              clear c29
              obtain rfl := Option.some.inj H
              have hcz30_0 : wr.cell? ⟨gb196, 0, none⟩ = some (.int .i64 a0_0) := (blk_cell BK196.out 0).trans rfl
              have hcz30_1 : wr.cell? ⟨gb196, 1, none⟩ = some (.int .i64 a0_1) := (blk_cell BK196.out 1).trans rfl
              have hcz30_2 : wr.cell? ⟨gb196, 2, none⟩ = some (.int .i64 a0_2) := (blk_cell BK196.out 2).trans rfl
              have hcz30_3 : wr.cell? ⟨gb196, 3, none⟩ = some (.int .i64 a0_3) := (blk_cell BK196.out 3).trans rfl
              have hcz30_4 : wr.cell? ⟨gb196, 4, none⟩ = some (.bool a0_4) := (blk_cell BK196.out 4).trans rfl
              have hcz30_5 : wr.cell? ⟨gb196, 5, none⟩ = some (.string a0_5) := (blk_cell BK196.out 5).trans rfl
              have hcz30_6 : wr.cell? ⟨gb196, 6, none⟩ = some (.slice A0_6 l0_6.length c0_6) := (blk_cell BK196.out 6).trans rfl
              have hcz30_7 : wr.cell? ⟨gb196, 7, none⟩ = some (.slice A0_7 l0_7.length c0_7) := (blk_cell BK196.out 7).trans rfl
              have hfz30_0 := blk_frozen BK196.out 0
              have hfz30_1 := blk_frozen BK196.out 1
              have hfz30_2 := blk_frozen BK196.out 2
              have hfz30_3 := blk_frozen BK196.out 3
              have hfz30_4 := blk_frozen BK196.out 4
              have hfz30_5 := blk_frozen BK196.out 5
              have hfz30_6 := blk_frozen BK196.out 6
              have hfz30_7 := blk_frozen BK196.out 7
              go_wp2
              go_ret
              exact ⟨by first | rfl | (simp [errW_none, errW_some] <;> rfl) | (simp [*, errW_none, errW_some] <;> rfl), by repeat (first | (with_reducible first | exact HB.out | apply below_alloc | apply pw_below_drewN | apply below_drew1 | refine below_set ?_ GE196.out) | exact HB.out)⟩
            · rw [if_neg c29] at H
              have c29b0 : (a0_0 == 10) = false := beq_eq_false_iff_ne.mpr c29
              have c29b1 : (a0_0 != 10) = true := bne_iff_ne.mpr c29
              by_cases c31 : a0_0 = 11
              · rw [if_pos c31] at H
                have c31b0 : (a0_0 == 11) = true := beq_iff_eq.mpr c31
                have c31b1 : (a0_0 != 11) = false := bne_eq_false_iff_eq.mpr c31
                clear c31
                obtain rfl := Option.some.inj H
                have hcz32_0 : wr.cell? ⟨gb196, 0, none⟩ = some (.int .i64 a0_0) := (blk_cell BK196.out 0).trans rfl
                have hcz32_1 : wr.cell? ⟨gb196, 1, none⟩ = some (.int .i64 a0_1) := (blk_cell BK196.out 1).trans rfl
                have hcz32_2 : wr.cell? ⟨gb196, 2, none⟩ = some (.int .i64 a0_2) := (blk_cell BK196.out 2).trans rfl
                have hcz32_3 : wr.cell? ⟨gb196, 3, none⟩ = some (.int .i64 a0_3) := (blk_cell BK196.out 3).trans rfl
                have hcz32_4 : wr.cell? ⟨gb196, 4, none⟩ = some (.bool a0_4) := (blk_cell BK196.out 4).trans rfl
                have hcz32_5 : wr.cell? ⟨gb196, 5, none⟩ = some (.string a0_5) := (blk_cell BK196.out 5).trans rfl
                have hcz32_6 : wr.cell? ⟨gb196, 6, none⟩ = some (.slice A0_6 l0_6.length c0_6) := (blk_cell BK196.out 6).trans rfl
                have hcz32_7 : wr.cell? ⟨gb196, 7, none⟩ = some (.slice A0_7 l0_7.length c0_7) := (blk_cell BK196.out 7).trans rfl
                have hfz32_0 := blk_frozen BK196.out 0
                have hfz32_1 := blk_frozen BK196.out 1
                have hfz32_2 := blk_frozen BK196.out 2
                have hfz32_3 := blk_frozen BK196.out 3
                have hfz32_4 := blk_frozen BK196.out 4
                have hfz32_5 := blk_frozen BK196.out 5
                have hfz32_6 := blk_frozen BK196.out 6
                have hfz32_7 := blk_frozen BK196.out 7
                go_wp2
                go_ret
                exact ⟨by first | rfl | (simp [errW_none, errW_some] <;> rfl) | (simp [*, errW_none, errW_some] <;> rfl), by repeat (first | (with_reducible first | exact HB.out | apply below_alloc | apply pw_below_drewN | apply below_drew1 | refine below_set ?_ GE196.out) | exact HB.out)⟩
              · rw [if_neg c31] at H
                have c31b0 : (a0_0 == 11) = false := beq_eq_false_iff_ne.mpr c31
                have c31b1 : (a0_0 != 11) = true := bne_iff_ne.mpr c31
                obtain rfl := Option.some.inj H
                have hcz33_0 : wr.cell? ⟨gb196, 0, none⟩ = some (.int .i64 a0_0) := (blk_cell BK196.out 0).trans rfl
                have hcz33_1 : wr.cell? ⟨gb196, 1, none⟩ = some (.int .i64 a0_1) := (blk_cell BK196.out 1).trans rfl
                have hcz33_2 : wr.cell? ⟨gb196, 2, none⟩ = some (.int .i64 a0_2) := (blk_cell BK196.out 2).trans rfl
                have hcz33_3 : wr.cell? ⟨gb196, 3, none⟩ = some (.int .i64 a0_3) := (blk_cell BK196.out 3).trans rfl
                have hcz33_4 : wr.cell? ⟨gb196, 4, none⟩ = some (.bool a0_4) := (blk_cell BK196.out 4).trans rfl
                have hcz33_5 : wr.cell? ⟨gb196, 5, none⟩ = some (.string a0_5) := (blk_cell BK196.out 5).trans rfl
                have hcz33_6 : wr.cell? ⟨gb196, 6, none⟩ = some (.slice A0_6 l0_6.length c0_6) := (blk_cell BK196.out 6).trans rfl
                have hcz33_7 : wr.cell? ⟨gb196, 7, none⟩ = some (.slice A0_7 l0_7.length c0_7) := (blk_cell BK196.out 7).trans rfl
                have hfz33_0 := blk_frozen BK196.out 0
                have hfz33_1 := blk_frozen BK196.out 1
                have hfz33_2 := blk_frozen BK196.out 2
                have hfz33_3 := blk_frozen BK196.out 3
                have hfz33_4 := blk_frozen BK196.out 4
                have hfz33_5 := blk_frozen BK196.out 5
                have hfz33_6 := blk_frozen BK196.out 6
                have hfz33_7 := blk_frozen BK196.out 7
                go_wp2
                go_ret
                exact ⟨by first | rfl | (simp [errW_none, errW_some] <;> rfl) | (simp [*, errW_none, errW_some] <;> rfl), by repeat (first | (with_reducible first | exact HB.out | apply below_alloc | apply pw_below_drewN | apply below_drew1 | refine below_set ?_ GE196.out) | exact HB.out)⟩


end

section
def tree_Depth.f (k : Nat) (a0_0 : Int) (a0_1 : Int) (a0_2 : Int) (a0_3 : Int) (a0_4 : Bool) (a0_5 : ByteArray) (l0_6 : List (S63)) (l0_7 : List (S25)) : Option (Int) := (tree_depth.f k a0_0 a0_1 a0_2 a0_3 a0_4 a0_5 l0_6 l0_7 true).bind fun t202 => (some t202)
set_option maxHeartbeats 8000000 in
set_option maxRecDepth 100000 in
theorem tree_Depth.calls (k : Nat) (a0_0 : Int) (a0_1 : Int) (a0_2 : Int) (a0_3 : Int) (a0_4 : Bool) (a0_5 : ByteArray) (A0_6 : Option Addr) (c0_6 : Nat) (l0_6 : List (S63)) (A0_7 : Option Addr) (c0_7 : Nat) (l0_7 : List (S25)) (r : Int) (w : World) (hr0_6 : Kd.C k63 w A0_6 l0_6.length l0_6) (hc0_6 : l0_6.length ≤ c0_6) (hr0_7 : Kd.C k25 w A0_7 l0_7.length l0_7) (hc0_7 : l0_7.length ≤ c0_7) (h : tree_Depth.f k a0_0 a0_1 a0_2 a0_3 a0_4 a0_5 l0_6 l0_7 = some r) :
    Calls Tryz.prog 18 #[.agg #[.int .i64 a0_0, .int .i64 a0_1, .int .i64 a0_2, .int .i64 a0_3, .bool a0_4, .string a0_5, .slice A0_6 l0_6.length c0_6, .slice A0_7 l0_7.length c0_7]] w fun e w' => e = .returned (.int .i64 r) ∧ Below w.heap.size w w' := by
  have hu25 := Tryz.underlying25
  have HR0_6 := Aside0.mk hr0_6
  have HC0_6 := Aside0.mk hc0_6
  clear hr0_6 hc0_6
  have HR0_7 := Aside0.mk hr0_7
  have HC0_7 := Aside0.mk hc0_7
  clear hr0_7 hc0_7
  have HB := Aside0.mk (Below.refl w.heap.size w)
  have H : ((tree_depth.f k a0_0 a0_1 a0_2 a0_3 a0_4 a0_5 l0_6 l0_7 true).bind fun t202 => (some t202)) = some r := h
  clear h
  replace H := Option.bind_eq_some_iff.mp H
  obtain ⟨t202, A20, H⟩ := H
  replace H : (some t202) = some r := H
  have A2 := Aside0.mk A20
  clear A20
  obtain rfl := Option.some.inj H
  go_enter Tryz.func18, Tryz.ntmps18
  go_wp2_with (first | ((with_reducible refine gate_dst (N := 1) rfl ?_); refine box_event ?hg (N := 1) ?hd (cs := #[.int .i64 a0_0, .int .i64 a0_1, .int .i64 a0_2, .int .i64 a0_3, .bool a0_4, .string a0_5, .slice A0_6 l0_6.length c0_6, .slice A0_7 l0_7.length c0_7]) (t := 25) ?hr ?_; (case hd => rfl); (case hg => rfl); (case hr => first | (go_simp; done) | (go_simp; rfl)); intro gb201 hg w3 hbox hb; have n0_ := Aside0.mk (below_step (by repeat (first | (with_reducible first | exact HB.out | apply below_alloc | apply pw_below_drewN | apply below_drew1) | exact HB.out)) hb); have n1_ := Aside0.mk (hbox); have n2_ := Aside0.mk ((by rw [hg]; exact (below_size (by repeat (first | (with_reducible first | exact HB.out | apply below_alloc | apply pw_below_drewN | apply below_drew1) | exact HB.out))) : w.heap.size ≤ gb201)); have n3_ := Aside0.mk ((by rw [hg]; exact (below_size (by repeat (first | (with_reducible first | exact HB.out | apply below_alloc | apply pw_below_drewN | apply below_drew1) | exact HB.out))) : w.heap.size ≤ gb201)); clear HB; have HB := n0_; have BK201 := n1_; have GW201 := n2_; have GE201 := n3_; clear n0_ n1_ n2_ n3_; clear hb hbox hg; have hcz4_0 : w3.cell? ⟨gb201, 0, none⟩ = some (.int .i64 a0_0) := (blk_cell BK201.out 0).trans rfl; have hcz4_1 : w3.cell? ⟨gb201, 1, none⟩ = some (.int .i64 a0_1) := (blk_cell BK201.out 1).trans rfl; have hcz4_2 : w3.cell? ⟨gb201, 2, none⟩ = some (.int .i64 a0_2) := (blk_cell BK201.out 2).trans rfl; have hcz4_3 : w3.cell? ⟨gb201, 3, none⟩ = some (.int .i64 a0_3) := (blk_cell BK201.out 3).trans rfl; have hcz4_4 : w3.cell? ⟨gb201, 4, none⟩ = some (.bool a0_4) := (blk_cell BK201.out 4).trans rfl; have hcz4_5 : w3.cell? ⟨gb201, 5, none⟩ = some (.string a0_5) := (blk_cell BK201.out 5).trans rfl; have hcz4_6 : w3.cell? ⟨gb201, 6, none⟩ = some (.slice A0_6 l0_6.length c0_6) := (blk_cell BK201.out 6).trans rfl; have hcz4_7 : w3.cell? ⟨gb201, 7, none⟩ = some (.slice A0_7 l0_7.length c0_7) := (blk_cell BK201.out 7).trans rfl; have hfz4_0 := blk_frozen BK201.out 0; have hfz4_1 := blk_frozen BK201.out 1; have hfz4_2 := blk_frozen BK201.out 2; have hfz4_3 := blk_frozen BK201.out 3; have hfz4_4 := blk_frozen BK201.out 4; have hfz4_5 := blk_frozen BK201.out 5; have hfz4_6 := blk_frozen BK201.out 6; have hfz4_7 := blk_frozen BK201.out 7) | ((with_reducible refine gate_callee (f := 33) rfl ?_); refine goesL_ (some 4) rfl rfl Tryz.func33 (by kernel_rfl) rfl #[.agg #[.int .i64 a0_0, .int .i64 a0_1, .int .i64 a0_2, .int .i64 a0_3, .bool a0_4, .string a0_5, .slice A0_6 l0_6.length c0_6, .slice A0_7 l0_7.length c0_7], .bool true] rfl (by (try simp only [List.map_toArray, List.map_cons, List.map_nil]); first | done | rfl | (simp only [List.length_drop, List.length_take]; rfl)) ?_; (with_reducible refine (tree_depth.calls k a0_0 a0_1 a0_2 a0_3 a0_4 a0_5 _ _ l0_6 _ _ l0_7 true t202 _ ?side1 ?side2 ?side3 ?side4 A2.out).mono ?_); (case side1 => repeat (first | exact (Kd.C_below HR0_6.out HB.out) | (with_reducible refine Kd.C_alloc ?_ _) | (with_reducible refine Kd.C_drewN ?_ _) | (with_reducible refine Kd.C_drew ?_))); (case side2 => exact HC0_6.out); (case side3 => repeat (first | exact (Kd.C_below HR0_7.out HB.out) | (with_reducible refine Kd.C_alloc ?_ _) | (with_reducible refine Kd.C_drewN ?_ _) | (with_reducible refine Kd.C_drew ?_))); (case side4 => exact HC0_7.out); rintro e w5 ⟨rfl, hb⟩; refine ⟨_, rfl, ?_⟩; have n0_ := Aside0.mk (blk_below (g := gb201) (o := .cells #[.int .i64 a0_0, .int .i64 a0_1, .int .i64 a0_2, .int .i64 a0_3, .bool a0_4, .string a0_5, .slice A0_6 l0_6.length c0_6, .slice A0_7 l0_7.length c0_7] 25 (0, 0)) (by (with_reducible repeat (first | refine blk_drewN ?_ _ | refine blk_drew ?_ | refine blk_alloc ?_ _)); exact BK201.out) hb); have n1_ := Aside0.mk (below_step (by repeat (first | (with_reducible first | exact HB.out | apply below_alloc | apply pw_below_drewN | apply below_drew1 | refine below_set ?_ GE201.out) | exact HB.out)) hb); clear BK201; clear HB; have BK201 := n0_; have HB := n1_; clear n0_ n1_; (try clear hb); (try clear hb2); (try clear hk); (try clear hi)))
  go_ret
  exact ⟨by first | rfl | (simp [errW_none, errW_some] <;> rfl) | (simp [*, errW_none, errW_some] <;> rfl), by repeat (first | (with_reducible first | exact HB.out | apply below_alloc | apply pw_below_drewN | apply below_drew1 | refine below_set ?_ GE201.out) | exact HB.out)⟩



end


end Go.Proofs.YtkipjalfgdfaiaaGreatDoor.PTk
namespace Go.Proofs.YtkipjalfgdfaiaaGreatDoor
set_option linter.unusedVariables false
set_option linter.unusedSimpArgs false
open Go.RowKit Go.Proofs.YtkipjalfgdfaiaaGreatDoorW.PrintWords Go.Proofs.YtkipjalfgdfaiaaGreatDoor.PTk

abbrev Nd := S25
/-- What holds of a node if it does of its kids holds of all. -/
theorem Nd.ind {P : Nd → Prop} {Q : List Nd → Prop} (hP : ∀ n : Nd, Q n.f7 → P n) (h0 : Q []) (h1 : ∀ n ns, P n → Q ns → Q (n :: ns)) : (∀ n, P n) ∧ ∀ ns, Q ns :=
  ⟨fun n => S25.rec (motive_1 := P) (motive_2 := Q) (fun f0 f1 f2 f3 f4 f5 f6 f7 h => hP ⟨f0, f1, f2, f3, f4, f5, f6, f7⟩ h) h0 (fun n ns hn hns => h1 n ns hn hns) n,
   fun ns => S25.rec_1 (motive_1 := P) (motive_2 := Q) (fun f0 f1 f2 f3 f4 f5 f6 f7 h => hP ⟨f0, f1, f2, f3, f4, f5, f6, f7⟩ h) h0 (fun n ns hn hns => h1 n ns hn hns) ns⟩
mutual
def sizeN : Nd → Nat
  | ⟨_, _, _, _, _, _, _, ks⟩ => 1 + sizeK ks
def sizeK : List Nd → Nat
  | [] => 0
  | n :: ns => sizeN n + sizeK ns
end
theorem sizeN_eq (n : Nd) : sizeN n = 1 + sizeK n.f7 := by cases n; rw [sizeN]
theorem sizeK_nil : sizeK [] = 0 := by rw [sizeK]
theorem sizeK_cons (n : Nd) (ns : List Nd) : sizeK (n :: ns) = sizeN n + sizeK ns := by rw [sizeK]
theorem sizeK_len (ns : List Nd) : ns.length ≤ sizeK ns := by
  induction ns with
  | nil => simp
  | cons n ns ih => rw [sizeK_cons, sizeN_eq, List.length_cons]; omega
mutual
def fewN : Nd → Int → Int → Bool × Int
  | ⟨_, _, _, _, _, _, _, ks⟩, l, d => if l - 1 < 0 ∨ d < 0 then (false, l - 1) else fewK ks (l - 1) (d - 1)
def fewK : List Nd → Int → Int → Bool × Int
  | [], l, _ => (true, l)
  | n :: ns, l, d => if (fewN n l d).1 = true then fewK ns (fewN n l d).2 d else (false, (fewN n l d).2)
end
theorem fewN_eq (n : Nd) (l d : Int) : fewN n l d = if l - 1 < 0 ∨ d < 0 then (false, l - 1) else fewK n.f7 (l - 1) (d - 1) := by cases n; rw [fewN]
theorem fewK_nil (l d : Int) : fewK [] l d = (true, l) := by rw [fewK]
theorem fewK_cons (n : Nd) (ns : List Nd) (l d : Int) : fewK (n :: ns) l d = if (fewN n l d).1 = true then fewK ns (fewN n l d).2 d else (false, (fewN n l d).2) := by rw [fewK]
mutual
def highN : Nd → Nat
  | ⟨_, _, _, _, _, _, _, ks⟩ => highK ks
def highK : List Nd → Nat
  | [] => 0
  | n :: ns => max (highN n + 1) (highK ns)
end
theorem highN_eq (n : Nd) : highN n = highK n.f7 := by cases n; rw [highN]
theorem highK_cons (n : Nd) (ns : List Nd) : highK (n :: ns) = max (highN n + 1) (highK ns) := by rw [highK]
theorem few_ok : (∀ n l d, 0 ≤ l → (-1 ≤ (fewN n l d).2 ∧ (fewN n l d).2 ≤ l) ∧ ((fewN n l d).1 = true → 0 ≤ (fewN n l d).2 ∧ (fewN n l d).2 = l - sizeN n ∧ (highN n : Int) ≤ d)) ∧
    (∀ ns l d, 0 ≤ l → (-1 ≤ (fewK ns l d).2 ∧ (fewK ns l d).2 ≤ l) ∧ ((fewK ns l d).1 = true → 0 ≤ (fewK ns l d).2 ∧ (fewK ns l d).2 = l - sizeK ns ∧ (highK ns : Int) ≤ max 0 (d + 1))) := by
  refine Nd.ind (fun n ih l d hl => ?_) (fun l d hl => ?_) (fun n ns hn hns l d hl => ?_)
  · rw [fewN_eq, sizeN_eq, highN_eq]
    by_cases h : l - 1 < 0 ∨ d < 0
    · rw [if_pos h]; exact ⟨⟨by simp only; omega, by simp only; omega⟩, fun h => by simp at h⟩
    · rw [if_neg h]
      have := ih (l - 1) (d - 1) (by omega)
      refine ⟨⟨this.1.1, by have := this.1.2; omega⟩, fun h2 => ?_⟩
      have h3 := this.2 h2
      exact ⟨h3.1, by omega, by omega⟩
  · rw [fewK_nil, sizeK_nil]
    exact ⟨⟨by simp only; omega, by simp only; omega⟩, fun _ => ⟨hl, by simp, by rw [highK]; omega⟩⟩
  · rw [fewK_cons, sizeK_cons, highK_cons]
    have h1 := hn l d hl
    by_cases h : (fewN n l d).1 = true
    · rw [if_pos h]
      have h2 := h1.2 h
      have h3 := hns (fewN n l d).2 d h2.1
      refine ⟨⟨h3.1.1, by omega⟩, fun h4 => ?_⟩
      have h5 := h3.2 h4
      exact ⟨h5.1, by omega, by omega⟩
    · rw [if_neg h]
      exact ⟨h1.1, fun h => by simp at h⟩
mutual
def groupsN : Nd → Nat
  | ⟨k, _, a, _, _, _, _, ks⟩ => groupsK ks + (if k = 9 ∧ 0 < a then 1 else 0)
def groupsK : List Nd → Nat
  | [] => 0
  | n :: ns => groupsN n + groupsK ns
end
theorem groupsN_eq (n : Nd) : groupsN n = groupsK n.f7 + (if n.f0 = 9 ∧ 0 < n.f2 then 1 else 0) := by cases n; rw [groupsN]
theorem groupsK_nil : groupsK [] = 0 := by rw [groupsK]
theorem groupsK_cons (n : Nd) (ns : List Nd) : groupsK (n :: ns) = groupsN n + groupsK ns := by rw [groupsK]
theorem groups_le : (∀ n, groupsN n ≤ sizeN n) ∧ ∀ ns, groupsK ns ≤ sizeK ns := by
  refine Nd.ind (fun n ih => ?_) (by rw [groupsK_nil]; omega) (fun n ns h1 h2 => by rw [groupsK_cons, sizeK_cons]; omega)
  rw [groupsN_eq, sizeN_eq]
  split <;> omega
mutual
def depthN : Nd → Bool → Nat
  | ⟨k, m, _, _, _, _, _, ks⟩, br => depthK ks (if k = 3 then (m == 0) else true) 0 + (if k = 3 then (if br = true then 1 else 0) else if k = 9 ∨ k = 10 ∨ k = 11 then 1 else 0)
def depthK : List Nd → Bool → Nat → Nat
  | [], _, acc => acc
  | n :: ns, b, acc => depthK ns b (max acc (depthN n b))
end
theorem depthN_eq (n : Nd) (br : Bool) : depthN n br = depthK n.f7 (if n.f0 = 3 then (n.f1 == 0) else true) 0 + (if n.f0 = 3 then (if br = true then 1 else 0) else if n.f0 = 9 ∨ n.f0 = 10 ∨ n.f0 = 11 then 1 else 0) := by cases n; rw [depthN]
theorem depthK_nil (b : Bool) (acc : Nat) : depthK [] b acc = acc := by rw [depthK]
theorem depthK_cons (n : Nd) (ns : List Nd) (b : Bool) (acc : Nat) : depthK (n :: ns) b acc = depthK ns b (max acc (depthN n b)) := by rw [depthK]
theorem depth_le : (∀ n br, depthN n br ≤ highN n + 1) ∧ ∀ ns b acc, depthK ns b acc ≤ max acc (highK ns) := by
  refine Nd.ind (fun n ih br => ?_) (fun b acc => by rw [depthK_nil]; omega) (fun n ns h1 h2 b acc => ?_)
  · rw [depthN_eq, highN_eq]
    by_cases h : n.f0 = 3
    · rw [if_pos h, if_pos h]
      have := ih (n.f1 == 0) 0
      split <;> omega
    · rw [if_neg h, if_neg h]
      have := ih true 0
      split <;> omega
  · rw [depthK_cons, highK_cons]
    have a1 := h1 b
    have a2 := h2 b (max acc (depthN n b))
    omega
theorem rdN (xs : List Nd) (j : Nat) (h : j < xs.length) : rd_T25 xs (j : Int) = xs[j] := by unfold rd_T25; simp [h]
theorem w64c {x : Int} (h0 : -9223372036854775808 ≤ x) (h1 : x ≤ 9223372036854775807) : wrap64 x = x := by unfold wrap64; omega
/-- The printed Groups. -/
theorem groups_ev : (∀ n : Nd, sizeN n ≤ 1073741824 → Ev (fun k => tree_Groups.f k n.f0 n.f1 n.f2 n.f3 n.f4 n.f5 n.f6 n.f7) (groupsN n : Int)) ∧
    (∀ ns : List Nd, sizeK ns ≤ 1073741824 → ∀ (xs : List Nd) (j acc : Nat) (a0 a1 a2 a3 : Int) (a4 : Bool) (a5 : ByteArray) (a6 : List S63) (a7 : List Nd), xs.drop j = ns → xs.length ≤ 1073741824 → acc + sizeK ns ≤ 2147483648 →
      Ev (fun k => tree_Groups.l0 k (acc : Int) xs (xs.length : Int) (j : Int) a0 a1 a2 a3 a4 a5 a6 a7) ((acc + groupsK ns + (if a0 = 9 ∧ 0 < a2 then 1 else 0) : Nat) : Int)) := by
  refine Nd.ind (fun n ih hs => ?_) (fun hs xs j acc a0 a1 a2 a3 a4 a5 a6 a7 hd hx ha => ?_) (fun n ns hn hns hs xs j acc a0 a1 a2 a3 a4 a5 a6 a7 hd hx ha => ?_)
  · rw [sizeN_eq] at hs
    refine Ev.step (fun k => by rw [tree_Groups.f]) ?_
    have := ih (by omega) n.f7 0 0 n.f0 n.f1 n.f2 n.f3 n.f4 n.f5 n.f6 n.f7 (by simp) (by have := sizeK_len n.f7; omega) (by omega)
    rw [groupsN_eq]
    simpa using this
  · have hj : xs.length ≤ j := List.drop_eq_nil_iff.1 hd
    refine Ev.step (fun k => ?_) (Ev.now _)
    rw [tree_Groups.l0, if_neg (by omega), groupsK_nil]
    by_cases h : a0 = 9
    · rw [if_pos h]
      by_cases h2 : a2 > 0
      · rw [if_pos h2, if_pos ⟨h, h2⟩, w64c (by omega) (by omega)]
        simp
      · rw [if_neg h2, if_neg (fun h3 => h2 h3.2)]
        simp
    · rw [if_neg h, if_neg (fun h3 => h h3.1)]
      simp
  · rw [sizeK_cons] at hs
    have hj : j < xs.length := by
      have := congrArg List.length hd
      rw [List.length_drop] at this
      simp only [List.length_cons] at this
      omega
    rw [List.drop_eq_getElem_cons hj] at hd
    obtain ⟨hn0, hd2⟩ := List.cons.inj hd
    have hg := groups_le.1 n
    have hsz := sizeN_eq n
    have h1 := hn (by omega)
    rw [sizeK_cons] at ha
    have h2 := hns (by omega) xs (j + 1) (acc + groupsN n) a0 a1 a2 a3 a4 a5 a6 a7 hd2 hx (by omega)
    refine Ev.step (f := fun k => (tree_Groups.f k n.f0 n.f1 n.f2 n.f3 n.f4 n.f5 n.f6 n.f7).bind fun t => tree_Groups.l0 k (wrap64 ((acc : Int) + t)) xs (xs.length : Int) (wrap64 ((j : Int) + 1)) a0 a1 a2 a3 a4 a5 a6 a7) (fun k => ?_) (Ev.bind h1 ?_)
    · rw [tree_Groups.l0, if_pos (by omega), if_pos (by omega), if_pos (by omega), rdN xs j hj, hn0]
    · rw [show wrap64 ((acc : Int) + (groupsN n : Int)) = ((acc + groupsN n : Nat) : Int) by rw [w64c (by omega) (by omega)]; omega, show wrap64 ((j : Int) + 1) = ((j + 1 : Nat) : Int) by rw [w64c (by omega) (by omega)]; omega, groupsK_cons, ← Nat.add_assoc]
      exact h2
theorem mx_nat (a b : Nat) : mx (a : Int) (b : Int) = ((max a b : Nat) : Int) := by unfold mx; split <;> omega
/-- The printed depth. -/
theorem depth_ev : (∀ n : Nd, ∀ br, sizeN n ≤ 1073741824 → highN n ≤ 1073741824 → Ev (fun k => tree_depth.f k n.f0 n.f1 n.f2 n.f3 n.f4 n.f5 n.f6 n.f7 br) (depthN n br : Int)) ∧
    (∀ ns : List Nd, sizeK ns ≤ 1073741824 → highK ns ≤ 1073741824 → ∀ (xs : List Nd) (j acc : Nat) (br : Bool) (a0 a1 a2 a3 : Int) (a4 : Bool) (a5 : ByteArray) (a6 : List S63) (a7 : List Nd), xs.drop j = ns → xs.length ≤ 1073741824 → acc ≤ 2147483648 →
      Ev (fun k => tree_depth.l0 k br (acc : Int) xs (xs.length : Int) (j : Int) a0 a1 a2 a3 a4 a5 a6 a7) ((depthK ns (if a0 = 3 then (a1 == 0) else true) acc + (if a0 = 3 then (if br = true then 1 else 0) else if a0 = 9 ∨ a0 = 10 ∨ a0 = 11 then 1 else 0) : Nat) : Int)) := by
  refine Nd.ind (fun n ih br hs hh => ?_) (fun hs hh xs j acc br a0 a1 a2 a3 a4 a5 a6 a7 hd hx ha => ?_) (fun n ns hn hns hs hh xs j acc br a0 a1 a2 a3 a4 a5 a6 a7 hd hx ha => ?_)
  · rw [sizeN_eq] at hs
    rw [highN_eq] at hh
    refine Ev.step (fun k => by rw [tree_depth.f]) ?_
    have := ih (by omega) hh n.f7 0 0 br n.f0 n.f1 n.f2 n.f3 n.f4 n.f5 n.f6 n.f7 (by simp) (by have := sizeK_len n.f7; omega) (by omega)
    rw [depthN_eq]
    exact this
  · have hj : xs.length ≤ j := List.drop_eq_nil_iff.1 hd
    refine Ev.step (fun k => ?_) (Ev.now _)
    have hw : wrap64 ((acc : Int) + 1) = ((acc + 1 : Nat) : Int) := by rw [w64c (by omega) (by omega)]; omega
    rw [tree_depth.l0, if_neg (by omega), depthK_nil, hw]
    by_cases h : a0 = 3
    · rw [if_pos h, if_pos h]
      cases br <;> simp
    · rw [if_neg h, if_neg h]
      by_cases h9 : a0 = 9
      · rw [if_pos h9, if_pos (.inl h9)]
      · rw [if_neg h9]
        by_cases h10 : a0 = 10
        · rw [if_pos h10, if_pos (.inr (.inl h10))]
        · rw [if_neg h10]
          by_cases h11 : a0 = 11
          · rw [if_pos h11, if_pos (.inr (.inr h11))]
          · rw [if_neg h11, if_neg (by omega)]
            rfl
  · rw [sizeK_cons] at hs
    rw [highK_cons] at hh
    have hj : j < xs.length := by
      have := congrArg List.length hd
      rw [List.length_drop] at this
      simp only [List.length_cons] at this
      omega
    rw [List.drop_eq_getElem_cons hj] at hd
    obtain ⟨hn0, hd2⟩ := List.cons.inj hd
    have hw : wrap64 ((j : Int) + 1) = ((j + 1 : Nat) : Int) := by rw [w64c (by omega) (by omega)]; omega
    by_cases h : a0 = 3
    · have hg := depth_le.1 n (a1 == 0)
      have h1 := hn (a1 == 0) (by omega) (by omega)
      have h2 := hns (by omega) (by omega) xs (j + 1) (max acc (depthN n (a1 == 0))) br a0 a1 a2 a3 a4 a5 a6 a7 hd2 hx (by omega)
      rw [if_pos h] at h2 ⊢
      refine Ev.step (f := fun k => (tree_depth.f k n.f0 n.f1 n.f2 n.f3 n.f4 n.f5 n.f6 n.f7 (a1 == 0)).bind fun t => tree_depth.l0 k br (mx (acc : Int) t) xs (xs.length : Int) (wrap64 ((j : Int) + 1)) a0 a1 a2 a3 a4 a5 a6 a7) (fun k => ?_) (Ev.bind h1 ?_)
      · rw [tree_depth.l0, if_pos (by omega), if_pos (by omega), if_pos (by omega), if_pos h, rdN xs j hj, hn0]
      · rw [mx_nat, hw, depthK_cons]
        exact h2
    · have hg := depth_le.1 n true
      have h1 := hn true (by omega) (by omega)
      have h2 := hns (by omega) (by omega) xs (j + 1) (max acc (depthN n true)) br a0 a1 a2 a3 a4 a5 a6 a7 hd2 hx (by omega)
      rw [if_neg h] at h2 ⊢
      refine Ev.step (f := fun k => (tree_depth.f k n.f0 n.f1 n.f2 n.f3 n.f4 n.f5 n.f6 n.f7 true).bind fun t => tree_depth.l0 k br (mx (acc : Int) t) xs (xs.length : Int) (wrap64 ((j : Int) + 1)) a0 a1 a2 a3 a4 a5 a6 a7) (fun k => ?_) (Ev.bind h1 ?_)
      · rw [tree_depth.l0, if_pos (by omega), if_pos (by omega), if_pos (by omega), if_neg h, rdN xs j hj, hn0]
      · rw [mx_nat, hw, depthK_cons]
        exact h2

end Go.Proofs.YtkipjalfgdfaiaaGreatDoor
namespace Go.Proofs.YtkipjalfgdfaiaaGreatDoor
set_option linter.unusedVariables false
set_option linter.unusedSimpArgs false
open Go.RowKit Go.Proofs.YtkipjalfgdfaiaaGreatDoorW.PrintWords

/-- A row of one's own since 'base', of whatever blocks. -/
abbrev Own {α : Type} (d : Kd α) (e : Nat) (w : World) (base : Nat) (v : Value) (l : List α) : Prop := d.R e w base (fun _ => True) v l

theorem below_to {w w1 w2 : World} (h : Below w.heap.size w w1) (k : Below w1.heap.size w1 w2) : Below w.heap.size w w2 := h.trans (k.mono h.size)

theorem int_mkM (k : IntKind) (w : World) (base : Nat) (ok : Nat → Prop) (x : Int) : (Kd.int k).M w base ok x [.int k x] := rfl
end Go.Proofs.YtkipjalfgdfaiaaGreatDoor
namespace Go.Proofs.YtkipjalfgdfaiaaGreatDoor
set_option linter.unusedVariables false
set_option linter.unusedSimpArgs false
open Go.RowKit Go.Proofs.YtkipjalfgdfaiaaGreatDoorW.PrintWords

/-- Whatever stood in w stands in w', but for some blocks. -/
structure But (ex : Nat → Prop) (w w' : World) : Prop where
  os : w'.os = w.os
  tape : w'.tape = w.tape
  output : w'.output = w.output
  size : w.heap.size ≤ w'.heap.size
  block : ∀ k, k < w.heap.size → ¬ ex k → w'.heap[k]? = w.heap[k]?
section
variable {ex ex' : Nat → Prop} {w w1 w2 : World}
theorem But.refl (ex : Nat → Prop) (w : World) : But ex w w := ⟨rfl, rfl, rfl, Nat.le_refl _, fun _ _ _ => rfl⟩
theorem But.trans (h : But ex w w1) (k : But ex w1 w2) : But ex w w2 :=
  ⟨k.os.trans h.os, k.tape.trans h.tape, k.output.trans h.output, Nat.le_trans h.size k.size, fun b hb hn => (k.block b (Nat.lt_of_lt_of_le hb h.size) hn).trans (h.block b hb hn)⟩
theorem But.mono (h : But ex w w1) (he : ∀ k, ex k → ex' k) : But ex' w w1 := ⟨h.os, h.tape, h.output, h.size, fun b hb hn => h.block b hb (fun e => hn (he b e))⟩
theorem But.of_below (h : Below w.heap.size w w1) : But ex w w1 := ⟨h.os, h.tape, h.output, h.size, fun b hb _ => h.block b hb⟩
theorem But.below (h : But ex w w1) {B : Nat} (hB : B ≤ w.heap.size) (he : ∀ k, k < B → ¬ ex k) : Below B w w1 := ⟨h.os, h.tape, h.output, h.size, fun b hb => h.block b (Nat.lt_of_lt_of_le hb hB) (he b hb)⟩
theorem But.set (h : But ex w w1) (g j : Nat) (hg : ex g) (u : Value) : But ex w (w1.setCell ⟨g, j, none⟩ u) := by
  have hb := Below.setCell (Below.refl 0 w1) (p := ⟨g, j, none⟩) (Nat.zero_le _) u
  refine ⟨hb.os.trans h.os, hb.tape.trans h.tape, hb.output.trans h.output, Nat.le_trans h.size hb.size, fun b hbl hn => ?_⟩
  rw [Below.heap_setCell w1 ⟨g, j, none⟩ u b (fun e => hn (by rw [e]; exact hg))]
  exact h.block b hbl hn
theorem But.alloc (h : But ex w w1) (o : Obj) : But ex w (w1.alloc o) := h.trans (But.of_below (below_alloc (Below.refl _ _) o))
end
theorem rowc {w : World} {g : Nat} {cs : Array Value} {t : TypeId} {fr : Nat × Nat} (h : w.heap[g]? = some (.cells cs t fr)) (j : Nat) (v : Value) (hj : cs[j]? = some v) : w.cell? ⟨g, j, none⟩ = some v := by
  simp [World.cell?, h, hj]

end Go.Proofs.YtkipjalfgdfaiaaGreatDoor
namespace Go.Proofs.YtkipjalfgdfaiaaGreatDoor
set_option linter.unusedVariables false
set_option linter.unusedSimpArgs false

/-- A code point's bytes. -/
def encL (r : Int) : List Int :=
  if r < 128 then [r]
  else if r < 2048 then [192 + r / 64, 128 + r % 64]
  else if r < 65536 then [224 + r / 4096, 128 + r / 64 % 64, 128 + r % 64]
  else [240 + r / 262144, 128 + r / 4096 % 64, 128 + r / 64 % 64, 128 + r % 64]
def runeB (r : Int) : Bool := decide (0 ≤ r) && decide (r ≤ 1114111) && !(decide (55296 ≤ r) && decide (r ≤ 57343))
theorem runeB_iff (r : Int) : runeB r = true ↔ 0 ≤ r ∧ r ≤ 1114111 ∧ ¬ (55296 ≤ r ∧ r ≤ 57343) := by
  unfold runeB
  simp only [Bool.and_eq_true, Bool.not_eq_true', decide_eq_true_eq, Bool.and_eq_false_iff, decide_eq_false_iff_not]
  omega
theorem encL_pos (r : Int) : 1 ≤ (encL r).length ∧ (encL r).length ≤ 4 := by
  unfold encL
  repeat' split
  all_goals simp
theorem encL_rng {r : Int} (hr : runeB r = true) : ∀ x ∈ encL r, 0 ≤ x ∧ x ≤ 255 := by
  rw [runeB_iff] at hr
  unfold encL
  intro x hx
  split at hx
  · simp at hx; omega
  · split at hx
    · simp at hx; omega
    · split at hx
      · simp at hx; omega
      · simp at hx; omega
theorem encL_ascii {r : Int} (h : r < 128) : encL r = [r] := if_pos h
theorem encL_high {r : Int} (hr : runeB r = true) (h : 128 ≤ r) : ∀ x ∈ encL r, 128 ≤ x := by
  rw [runeB_iff] at hr
  unfold encL
  intro x hx
  rw [if_neg (by omega)] at hx
  split at hx
  · simp at hx; omega
  · split at hx
    · simp at hx; omega
    · simp at hx; omega

end Go.Proofs.YtkipjalfgdfaiaaGreatDoor
namespace Go.Proofs.YtkipjalfgdfaiaaGreatDoor
set_option linter.unusedVariables false
set_option linter.unusedSimpArgs false
open Go.RowKit Go.Proofs.YtkipjalfgdfaiaaGreatDoorW.PrintWords

def digB (c : Int) : Bool := decide (48 ≤ c) && decide (c ≤ 57)
def letB (c : Int) : Bool := (decide (97 ≤ c) && decide (c ≤ 122)) || (decide (65 ≤ c) && decide (c ≤ 90))
def hexB (c : Int) : Bool := digB c || (decide (97 ≤ c) && decide (c ≤ 102)) || (decide (65 ≤ c) && decide (c ≤ 70))
def canonL (res : ByteArray → Int × ByteArray × Int) (x : ByteArray) : ByteArray × Int :=
  match res x with
  | (kind, v, e) => if e ≠ 0 then (⟨#[]⟩, e) else if kind = 1 then (⟨#[103, 99, 61]⟩ ++ v, e) else if kind = 2 then (⟨#[115, 99, 61]⟩ ++ v, e) else (v, e)
def hexV (c : Int) : Int := if c ≤ 57 then c - 48 else if c ≤ 70 then c - 55 else c - 87
def hexN (l : List Int) : Int := l.foldl (fun n c => 16 * n + hexV c) 0
end Go.Proofs.YtkipjalfgdfaiaaGreatDoor
namespace Go.Proofs.YtkipjalfgdfaiaaGreatDoor
set_option linter.unusedVariables false
set_option linter.unusedSimpArgs false
open Go.RowKit Go.Proofs.YtkipjalfgdfaiaaGreatDoorW.PrintWords

abbrev kB := Kd.int .u8
end Go.Proofs.YtkipjalfgdfaiaaGreatDoor
namespace Go.Proofs.YtkipjalfgdfaiaaGreatDoor
set_option linter.unusedVariables false
set_option linter.unusedSimpArgs false
open Go.RowKit Go.Proofs.YtkipjalfgdfaiaaGreatDoorW.PrintWords Go.Proofs.YtkipjalfgdfaiaaGreatDoorW.PrintLast Go.Proofs.YtkipjalfgdfaiaaGreatDoorW.PrintMore Go.Proofs.YtkipjalfgdfaiaaGreatDoor.PTk

theorem str_data (l : List Int) : (strOfNums l).data.toList = l.map fun n => UInt8.ofNat n.toNat := rfl
theorem strN_size (l : List Int) : (strOfNums l).size = l.length := by
  show (l.map fun n => UInt8.ofNat n.toNat).toArray.size = _
  simp
end Go.Proofs.YtkipjalfgdfaiaaGreatDoor
namespace Go.Proofs.YtkipjalfgdfaiaaGreatDoor
set_option linter.unusedVariables false
set_option linter.unusedSimpArgs false
open Go.RowKit Go.Proofs.YtkipjalfgdfaiaaGreatDoorW.PrintWords Go.Proofs.YtkipjalfgdfaiaaGreatDoorW.PrintLast Go.Proofs.YtkipjalfgdfaiaaGreatDoorW.PrintMore Go.Proofs.YtkipjalfgdfaiaaGreatDoor.PTk

abbrev kN := k25
theorem Nd.all {P : Nd → Prop} (h : ∀ n : Nd, (∀ m ∈ n.f7, P m) → P n) : ∀ n, P n :=
  (Nd.ind (Q := fun ns => ∀ m ∈ ns, P m) h (fun _ hm => by cases hm) (fun n ns hn hns m hm => by rcases List.mem_cons.1 hm with e | e; rw [e]; exact hn; exact hns m e)).1
def cellI (w : World) (g : Nat) (l : Int) : Prop := w.heap[g]? = some (.cells #[.int .i64 l] 3 (0, 0))
set_option maxHeartbeats 8000000 in
set_option maxRecDepth 100000 in
theorem few_any : ∀ (n : Nd) (w0 w : World) (g : Nat) (l d : Int) (A6 : Option Addr) (c6 : Nat) (A7 : Option Addr) (c7 : Nat), Kd.C kN w0 A7 n.f7.length n.f7 → n.f7.length ≤ c7 → Below w0.heap.size w0 w → w0.heap.size ≤ g → cellI w g l → 0 ≤ l → l ≤ 2147483648 → -1 ≤ d → d ≤ 2147483648 →
    Calls Tryz.prog 27 #[.agg #[.int .i64 n.f0, .int .i64 n.f1, .int .i64 n.f2, .int .i64 n.f3, .bool n.f4, .string n.f5, .slice A6 n.f6.length c6, .slice A7 n.f7.length c7], .pointer (some ⟨g, 0, none⟩), .int .i64 d] w fun e w' => e = .returned (.bool (fewN n l d).1) ∧ cellI w' g (fewN n l d).2 ∧ But (· = g) w w' := by
  refine Nd.all (fun n ih => ?_)
  intro w0 w g l d A6 c6 A7 c7 hC hc7 hb hg hl h0 h1 hd0 hd1
  have hgl : g < w.heap.size := by have h : w.heap[g]? = some _ := hl; exact (Array.getElem?_eq_some_iff.1 h).1
  have hgn : g ≠ w.heap.size := by omega
  obtain ⟨W1, hW1⟩ : ∃ W1, w.alloc (.cells #[.int .i64 n.f0, .int .i64 n.f1, .int .i64 n.f2, .int .i64 n.f3, .bool n.f4, .string n.f5, .slice A6 n.f6.length c6, .slice A7 n.f7.length c7] 25) = W1 := ⟨_, rfl⟩
  have hb1 : Below w.heap.size w W1 := by rw [← hW1]; exact below_alloc (Below.refl _ _) _
  have hbx : W1.heap[w.heap.size]? = some (.cells #[.int .i64 n.f0, .int .i64 n.f1, .int .i64 n.f2, .int .i64 n.f3, .bool n.f4, .string n.f5, .slice A6 n.f6.length c6, .slice A7 n.f7.length c7] 25 (0, 0)) := by rw [← hW1]; exact heap_alloc_new w _
  have hl1 : cellI W1 g l := (hb1.block g hgl).trans hl
  obtain ⟨W2, hW2⟩ : ∃ W2, W1.setCell ⟨g, 0, none⟩ (.int .i64 (l - 1)) = W2 := ⟨_, rfl⟩
  have hbt : But (· = g) w W2 := by rw [← hW2]; exact (But.of_below hb1).trans (But.set (ex := (· = g)) (But.refl _ _) g 0 rfl _)
  have hbb : But (· = g) W1 W2 := by rw [← hW2]; exact But.set (ex := (· = g)) (But.refl _ _) g 0 rfl _
  have hl2 : cellI W2 g (l - 1) := by rw [← hW2]; exact blk_put hl1 0 _ rfl
  have hb2x : W2.heap[w.heap.size]? = some (.cells #[.int .i64 n.f0, .int .i64 n.f1, .int .i64 n.f2, .int .i64 n.f3, .bool n.f4, .string n.f5, .slice A6 n.f6.length c6, .slice A7 n.f7.length c7] 25 (0, 0)) := (hbb.block _ (Array.getElem?_eq_some_iff.1 hbx).1 (fun e => hgn e.symm)).trans hbx
  have hb2 : Below w0.heap.size w0 W2 := hb.trans (hbt.below hb.size fun k hk e => by omega)
  have x0 : W1.cell? ⟨g, 0, none⟩ = some (.int .i64 l) := rowc hl1 0 _ rfl
  have xf : W1.frozen? ⟨g, 0, none⟩ = false := Lib.frozen_of_heap hl1 0
  have x2 : W2.cell? ⟨g, 0, none⟩ = some (.int .i64 (l - 1)) := rowc hl2 0 _ rfl
  have y7 : W2.cell? ⟨w.heap.size, 7, none⟩ = some (.slice A7 n.f7.length c7) := rowc hb2x 7 _ rfl
  have HBT := Aside0.mk hbt
  have HB0 := Aside0.mk hb
  have HSZ := Aside0.mk hb.size
  have HL2 := Aside0.mk hl2
  have HB2 := Aside0.mk hb2
  have HC := Aside0.mk hC
  have hlen : n.f7.length ≤ 9223372036854775807 := hC.2.1
  have HX := Aside0.mk hb2x
  rw [← hW1] at x0 xf hW2
  clear hb1 hbx hl1 hbt hbb hl2 hb2x hb2 hC hl hb hW1
  by_cases hneg : l - 1 < 0
  · have HF : Aside0 ((if l - 1 < 0 ∨ d < 0 then (false, l - 1) else fewK n.f7 (l - 1) (d - 1)) = (false, l - 1)) := ⟨if_pos (.inl hneg)⟩
    have hnb : decide (l - 1 < 0) = true := decide_eq_true hneg
    clear hneg
    go_enter Tryz.func27, Tryz.ntmps27
    go_wp2_with fail
    go_ret
    rw [fewN_eq, HF.out]
    exact ⟨rfl, HL2.out, HBT.out⟩
  · have hnb : decide (l - 1 < 0) = false := decide_eq_false hneg
    by_cases hdn : d < 0
    · have HF : Aside0 ((if l - 1 < 0 ∨ d < 0 then (false, l - 1) else fewK n.f7 (l - 1) (d - 1)) = (false, l - 1)) := ⟨if_pos (.inr hdn)⟩
      have hdb : decide (d < 0) = true := decide_eq_true hdn
      clear hneg hdn
      go_enter Tryz.func27, Tryz.ntmps27
      go_wp2_with fail
      go_ret
      rw [fewN_eq, HF.out]
      exact ⟨rfl, HL2.out, HBT.out⟩
    · have HF : Aside0 (fewN n l d = fewK n.f7 (l - 1) (d - 1)) := ⟨by rw [fewN_eq]; exact if_neg (by omega)⟩
      have hdb : decide (d < 0) = false := decide_eq_false hdn
      have HIH := Aside0.mk ih
      have hd2 : IntKind.i64.wrap (d - 1) = d - 1 := by rw [IntKind.wrap_i64]; omega
      have HR : Aside0 (0 ≤ l - 1 ∧ l ≤ 2147483648 ∧ 0 ≤ d ∧ d ≤ 2147483648) := ⟨by omega⟩
      have HG := Aside0.mk hg
      have HBS : Aside0 (w.heap.size < W2.heap.size) := ⟨(Array.getElem?_eq_some_iff.1 HX.out).1⟩
      clear hneg hdn ih
      go_enter Tryz.func27, Tryz.ntmps27
      go_wp2_with fail
      clear x0 xf hW2 x2 y7
      have HD := Aside0.mk (show Below w0.heap.size w0 W2 from HB2.out)
      go_loopg [25] n.f7.length (fun gk v25 w' => ∃ (j : Nat) (lj : Int), v25 = .int .i64 (j : Int) ∧ Aside0 (j ≤ n.f7.length ∧ gk = n.f7.length - j ∧ 0 ≤ lj ∧ lj ≤ 2147483648) ∧ Aside0 (fewK (n.f7.drop j) lj (d - 1) = fewN n l d) ∧ Aside0 (cellI w' g lj) ∧ Aside0 (But (· = g) w w' ∧ w.heap.size < w'.heap.size) )
      case atStart => exact ⟨0, l - 1, by first | rfl | simp, ⟨Nat.zero_le _, rfl, HR.out.1, by have := HR.out; omega⟩, ⟨by rw [List.drop_zero]; exact HF.out.symm⟩, HL2, ⟨HBT.out, HBS.out⟩⟩
      case round =>
        obtain ⟨j, lj, rfl, HA, HK, HL, HT⟩ := hrel
        have hbw : Below w0.heap.size w0 wr := HB0.out.trans (HT.out.1.below HSZ.out fun k hk e => by have := HG.out; omega)
        by_cases hj : j < n.f7.length
        · obtain ⟨ad, A6', c6', A7', c7', e7, x0, x1, x2, x3, x4, x5, x6, x7, l6, g6, l7, g7⟩ := at_T25 HC.out (j : Int) (by omega) (by omega)
          subst e7
          rw [rdN n.f7 j hj, Int.toNat_natCast] at x0 x1 x2 x3 x4 x5 x6 x7
          rw [rdN n.f7 j hj] at l7 g7
          have up : ∀ {p : Addr} {v : Value}, w0.cell? p = some v → wr.cell? p = some v := fun h => (hbw.cell (World.block_lt_of_cell? w0 _ h)).trans h
          replace x0 := up x0
          replace x1 := up x1
          replace x2 := up x2
          replace x3 := up x3
          replace x4 := up x4
          replace x5 := up x5
          replace x6 := up x6
          replace x7 := up x7
          have HM := HIH.out n.f7[j] (List.getElem_mem hj)
          have hkc := HK.out
          rw [List.drop_eq_getElem_cons hj, fewK_cons] at hkc
          have hfo := few_ok.1 n.f7[j] lj (d - 1) HA.out.2.2.1
          obtain ⟨m, hm⟩ : ∃ m, n.f7[j] = m := ⟨_, rfl⟩
          rw [hm] at x0 x1 x2 x3 x4 x5 x6 x7 l7 g7 HM hkc hfo
          have hba := fun o => below_alloc (Below.refl wr.heap.size wr) o
          have hgr : g < wr.heap.size := by have h : wr.heap[g]? = some _ := HL.out; exact (Array.getElem?_eq_some_iff.1 h).1
          have HCALL := Aside0.mk (fun o => HM w0 (wr.alloc o) g lj (d - 1) A6' c6' A7' c7' g7 l7 (hbw.trans ((hba o).mono hbw.size)) HG.out (((hba o).block g hgr).trans HL.out) HA.out.2.2.1 HA.out.2.2.2 (by have := HR.out; omega) (by have := HR.out; omega))
          have HKC := Aside0.mk hkc
          have HFO := Aside0.mk hfo
          have HJ := Aside0.mk hj
          have hjd : decide (j < n.f7.length) = true := decide_eq_true hj
          have HBA : Aside0 (∀ o, But (· = g) w (wr.alloc o)) := ⟨fun o => HT.out.1.trans (But.of_below (hba o))⟩
          have HZA : Aside0 (∀ o, w.heap.size < (wr.alloc o).heap.size) := ⟨fun o => Nat.lt_of_lt_of_le HT.out.2 (hba o).size⟩
          clear up hm HM hkc l6 g6 l7 g7 hba hbw hfo
          go_wp2_with fail
          refine (HCALL.out _).mono ?_
          rintro e w3 ⟨rfl, hl3, hb3⟩
          have HL3 := Aside0.mk hl3
          have HB3 := Aside0.mk ((HBA.out _).trans hb3)
          have HZ3 := Aside0.mk (Nat.lt_of_lt_of_le (HZA.out _) hb3.size)
          clear hl3 hb3 x0 x1 x2 x3 x4 x5 x6 x7
          cases hf : (fewN m lj (d - 1)).1 with
          | true =>
            have HKK : Aside0 (fewK (n.f7.drop (j + 1)) (fewN m lj (d - 1)).2 (d - 1) = fewN n l d) := ⟨by have := HKC.out; rw [if_pos hf] at this; exact this⟩
            have HF2 := Aside0.mk (HFO.out.2 hf)
            have HF1 := Aside0.mk HFO.out.1
            go_wp2_with fail
            go_roundg (n.f7.length - j - 1)
            case measure => have := HA.out; have := HJ.out; omega
            case rel => exact ⟨j + 1, (fewN m lj (d - 1)).2, by first | rfl | go_num, ⟨by have := HJ.out; omega, by omega, HF2.out.1, by have := HF1.out.2; have := HA.out; omega⟩, HKK, HL3, ⟨HB3.out, HZ3.out⟩⟩
          | false =>
            have HKK : Aside0 (fewN n l d = (false, (fewN m lj (d - 1)).2)) := ⟨by have := HKC.out; rw [if_neg (by rw [hf]; decide)] at this; exact this.symm⟩
            go_wp2_with fail
            go_ret
            rw [HKK.out]
            exact ⟨rfl, HL3.out, HB3.out⟩
        · have hjb : decide (j < n.f7.length) = false := decide_eq_false hj
          have hj2 : n.f7.length ≤ j := by omega
          have HKK : Aside0 (fewN n l d = (true, lj)) := ⟨by rw [← HK.out, List.drop_eq_nil_of_le hj2, fewK_nil]⟩
          clear hj hbw
          go_wp2_with fail
          go_ret
          rw [HKK.out]
          exact ⟨rfl, HL.out, HT.out.1⟩
set_option maxHeartbeats 4000000 in
set_option maxRecDepth 100000 in
theorem deep_any (n : Nd) (w : World) (A6 : Option Addr) (c6 : Nat) (A7 : Option Addr) (c7 : Nat) (hC : Kd.C kN w A7 n.f7.length n.f7) (hc7 : n.f7.length ≤ c7) (m d : Int) (h0 : 0 ≤ m) (h1 : m ≤ 2147483648) (hd0 : -1 ≤ d) (hd1 : d ≤ 2147483648) :
    Calls Tryz.prog 12 #[.agg #[.int .i64 n.f0, .int .i64 n.f1, .int .i64 n.f2, .int .i64 n.f3, .bool n.f4, .string n.f5, .slice A6 n.f6.length c6, .slice A7 n.f7.length c7], .int .i64 m, .int .i64 d] w fun e w' => e = .returned (.bool (!(fewN n m d).1)) ∧ Below w.heap.size w w' := by
  obtain ⟨W0, hW0⟩ : ∃ W0, w.alloc (.cells #[.int .i64 n.f0, .int .i64 n.f1, .int .i64 n.f2, .int .i64 n.f3, .bool n.f4, .string n.f5, .slice A6 n.f6.length c6, .slice A7 n.f7.length c7] 25) = W0 := ⟨_, rfl⟩
  have hb0 : Below w.heap.size w W0 := by rw [← hW0]; exact below_alloc (Below.refl _ _) _
  have hz0 : W0.heap.size = w.heap.size + 1 := by rw [← hW0]; simp
  obtain ⟨W1, hW1⟩ : ∃ W1, W0.alloc (.cells #[.int .i64 m] 3) = W1 := ⟨_, rfl⟩
  have hb1 : Below w.heap.size w W1 := below_to hb0 (by rw [← hW1]; exact below_alloc (Below.refl _ _) _)
  have hl1 : cellI W1 (w.heap.size + 1) m := by rw [← hW1, ← hz0]; exact heap_alloc_new W0 _
  have HF := Aside0.mk (few_any n w W1 (w.heap.size + 1) m d A6 c6 A7 c7 hC hc7 hb1 (by omega) hl1 h0 h1 hd0 hd1)
  rw [← hW0] at hW1
  have HB1 := Aside0.mk hb1
  have HW := Aside0.mk hW1
  clear hb1 hl1 hC hW1 hb0 hW0 hz0
  go_enter Tryz.func12, Tryz.ntmps12
  go_wp2_with fail
  rw [HW.out]
  refine HF.out.mono ?_
  rintro e w2 ⟨rfl, hl2, hb2⟩
  have HB2 : Aside0 (Below w.heap.size w w2) := ⟨HB1.out.trans (hb2.below HB1.out.size fun k hk e => by omega)⟩
  clear hl2 hb2
  go_wp2_with fail
  go_ret
  exact ⟨rfl, HB2.out⟩
/-- A node as a value: its slices lie at these addresses. -/
abbrev ndV (n : Nd) (A6 : Option Addr) (c6 : Nat) (A7 : Option Addr) (c7 : Nat) : Value := .agg #[.int .i64 n.f0, .int .i64 n.f1, .int .i64 n.f2, .int .i64 n.f3, .bool n.f4, .string n.f5, .slice A6 n.f6.length c6, .slice A7 n.f7.length c7]
/-- It reads as n. -/
def RdN (w : World) (n : Nd) (v : Value) : Prop := ∃ A6 c6 A7 c7, v = ndV n A6 c6 A7 c7 ∧ n.f6.length ≤ c6 ∧ Kd.C k63 w A6 n.f6.length n.f6 ∧ n.f7.length ≤ c7 ∧ Kd.C kN w A7 n.f7.length n.f7
theorem RdN.below {w w' : World} {n : Nd} {v : Value} (h : RdN w n v) (hb : Below w.heap.size w w') : RdN w' n v := by
  obtain ⟨A6, c6, A7, c7, e, h1, h2, h3, h4⟩ := h
  exact ⟨A6, c6, A7, c7, e, h1, Kd.C_below h2 hb, h3, Kd.C_below h4 hb⟩
theorem deepN_any (n : Nd) (w : World) (v : Value) (h : RdN w n v) (m d : Int) (h0 : 0 ≤ m) (h1 : m ≤ 2147483648) (hd0 : -1 ≤ d) (hd1 : d ≤ 2147483648) : Calls Tryz.prog 12 #[v, .int .i64 m, .int .i64 d] w fun e w' => e = .returned (.bool (!(fewN n m d).1)) ∧ Below w.heap.size w w' := by
  obtain ⟨A6, c6, A7, c7, rfl, _, _, h3, h4⟩ := h
  exact deep_any n w A6 c6 A7 c7 h4 h3 m d h0 h1 hd0 hd1

end Go.Proofs.YtkipjalfgdfaiaaGreatDoor
namespace Go.Proofs.YtkipjalfgdfaiaaGreatDoor
set_option linter.unusedVariables false
set_option linter.unusedSimpArgs false
open Go.RowKit Go.Proofs.YtkipjalfgdfaiaaGreatDoorW.PrintWords Go.Proofs.YtkipjalfgdfaiaaGreatDoorW.PrintLast Go.Proofs.YtkipjalfgdfaiaaGreatDoorW.PrintMore Go.Proofs.YtkipjalfgdfaiaaGreatDoor.PTk

theorem groups_any (n : Nd) (w : World) (v : Value) (h : RdN w n v) (hs : sizeN n ≤ 1073741824) : Calls Tryz.prog 17 #[v] w fun e w' => e = .returned (.int .i64 (groupsN n : Int)) ∧ Below w.heap.size w w' := by
  obtain ⟨A6, c6, A7, c7, rfl, h1, h2, h3, h4⟩ := h
  obtain ⟨k, hk⟩ := (groups_ev.1 n hs).rounds
  exact tree_Groups.calls k n.f0 n.f1 n.f2 n.f3 n.f4 n.f5 A6 c6 n.f6 A7 c7 n.f7 _ w h2 h1 h4 h3 hk
theorem depth_any (n : Nd) (w : World) (v : Value) (h : RdN w n v) (hs : sizeN n ≤ 1073741824) (hh : highN n ≤ 1073741824) : Calls Tryz.prog 18 #[v] w fun e w' => e = .returned (.int .i64 (depthN n true : Int)) ∧ Below w.heap.size w w' := by
  obtain ⟨A6, c6, A7, c7, rfl, h1, h2, h3, h4⟩ := h
  obtain ⟨k, hk⟩ := (depth_ev.1 n true hs hh).rounds
  exact tree_Depth.calls k n.f0 n.f1 n.f2 n.f3 n.f4 n.f5 A6 c6 n.f6 A7 c7 n.f7 _ w h2 h1 h4 h3 (by unfold tree_Depth.f; rw [hk]; rfl)

end Go.Proofs.YtkipjalfgdfaiaaGreatDoor
namespace Go.Proofs.YtkipjalfgdfaiaaGreatDoor
set_option linter.unusedVariables false
set_option linter.unusedSimpArgs false
open Go.RowKit Go.Proofs.YtkipjalfgdfaiaaGreatDoorW.PrintWords

/-- The marks outside of classes, and within. -/
def marksL (cls : Bool) : List Int := if cls then [91, 93, 94, 45, 38, 126, 92] else [46, 91, 40, 124, 41, 42, 43, 63, 123, 94, 36, 92]
def hexG (d : Int) : Int := if d < 10 then 48 + d else 55 + d
def hexT (r : Int) : List Int := if r < 16 then [hexG r] else [hexG (r / 16), hexG (r % 16)]
/-- A code point as a pattern says it. -/
def printL (r : Int) (cls : Bool) : List Int :=
  if runeB r = false then []
  else if r < 32 ∨ r = 127 then [92, 120, 123] ++ hexT r ++ [125]
  else if (marksL cls).contains r then 92 :: encL r
  else encL r
theorem hexG_rng {d : Int} (h0 : 0 ≤ d) (h1 : d < 16) : hexB (hexG d) = true ∧ hexV (hexG d) = d := by
  obtain ⟨n, rfl⟩ : ∃ n : Nat, d = (n : Int) := ⟨d.toNat, by omega⟩
  have hn : n < 16 := by omega
  clear h0 h1
  revert n
  decide
theorem hexT_ok {r : Int} (h0 : 0 ≤ r) (h1 : r < 128) : (∀ c ∈ hexT r, hexB c = true) ∧ hexN (hexT r) = r ∧ hexT r ≠ [] ∧ (hexT r).length ≤ 2 := by
  unfold hexT
  by_cases h : r < 16
  · rw [if_pos h]
    have := hexG_rng h0 h
    refine ⟨fun c hc => ?_, ?_, by simp, by simp⟩
    · simp only [List.mem_cons, List.not_mem_nil, or_false] at hc
      rw [hc]
      exact this.1
    · simp only [hexN, List.foldl_cons, List.foldl_nil]
      rw [this.2]
      omega
  · rw [if_neg h]
    have a := hexG_rng (d := r / 16) (by omega) (by omega)
    have b := hexG_rng (d := r % 16) (by omega) (by omega)
    refine ⟨fun c hc => ?_, ?_, by simp, by simp⟩
    · simp only [List.mem_cons, List.not_mem_nil, or_false] at hc
      rcases hc with hc | hc
      · rw [hc]; exact a.1
      · rw [hc]; exact b.1
    · simp only [hexN, List.foldl_cons, List.foldl_nil]
      rw [a.2, b.2]
      omega
theorem printL_none {r : Int} {cls : Bool} (h : runeB r = false) : printL r cls = [] := if_pos h
theorem printL_pos {r : Int} {cls : Bool} (h : runeB r = true) : 1 ≤ (printL r cls).length ∧ (printL r cls).length ≤ 6 := by
  have hrr := (runeB_iff r).1 h
  have he := encL_pos r
  unfold printL
  rw [if_neg (by rw [h]; decide)]
  split
  · have hx := hexT_ok (r := r) hrr.1 (by omega)
    simp only [List.length_append, List.length_cons, List.length_nil]
    omega
  · split
    · simp only [List.length_cons]; omega
    · omega
end Go.Proofs.YtkipjalfgdfaiaaGreatDoor
namespace Go.Proofs.YtkipjalfgdfaiaaGreatDoor
set_option linter.unusedVariables false
set_option linter.unusedSimpArgs false
open Go.RowKit Go.Proofs.YtkipjalfgdfaiaaGreatDoorW.PrintWords Go.Proofs.YtkipjalfgdfaiaaGreatDoor.PTk

abbrev e0 : ByteArray := ⟨#[]⟩
/-- A node's fields are those, but for its kind. -/
def onlyB (n : Nd) (mode a b : Int) (neg : Bool) (name : ByteArray) (kids : Nat) : Bool :=
  n.f1 == mode && n.f2 == a && n.f3 == b && n.f4 == neg && decide (n.f5 = name) && n.f6.length == 0 && n.f7.length == kids
/-- How many groups have begun, and their names. -/
abbrev Gs := Nat × List ByteArray
def wordB (c : Int) : Bool := letB c || c == 95
def nameB : List Int → Bool
  | [] => false
  | c :: l => wordB c && l.all (fun d => wordB d || digB d) && decide (l.length < 20)
def groupS (a : Int) (name : ByteArray) (c : Gs) : Option Gs :=
  if a = 0 then (if name = e0 then some c else none)
  else if a = (c.1 : Int) + 1 ∧ a ≤ 20 then (if name = e0 then some (c.1 + 1, c.2) else if nameB (bytesOf name) = true ∧ c.2.all (fun x => decide (x ≠ name)) = true then some (c.1 + 1, name :: c.2) else none)
  else none
section
variable (res : ByteArray → Int × ByteArray × Int)
def propN (n : Nd) : Bool := onlyB n 0 0 0 n.f4 n.f5 0 && (decide (n.f5 = ⟨#[100]⟩) || decide (n.f5 = ⟨#[119]⟩) || decide (n.f5 = ⟨#[115]⟩) || ((canonL res n.f5).2 == 0 && decide ((canonL res n.f5).1 = n.f5)))
mutual
def classN : Nd → Nat → Bool
  | ⟨k, m, a, b, ng, nm, st, ks⟩, deep => k == 3 && decide (deep ≤ 50) && onlyB ⟨k, m, a, b, ng, nm, st, ks⟩ m 0 0 ng e0 ks.length && (if m = 0 then (!ks.isEmpty && membK ks deep) else (decide (1 ≤ m) && decide (m ≤ 3) && sidesK ks deep))
def membK : List Nd → Nat → Bool
  | [], _ => true
  | n :: ns, deep => (if n.f0 = 1 then onlyB n 0 n.f2 0 false e0 0 && runeB n.f2
      else if n.f0 = 4 then onlyB n 0 n.f2 n.f3 false e0 0 && runeB n.f2 && runeB n.f3 && decide (n.f2 ≤ n.f3)
      else if n.f0 = 5 then propN res n
      else classN n (deep + 1)) && membK ns deep
def sidesK : List Nd → Nat → Bool
  | [a, b], deep => !a.f4 && !b.f4 && b.f1 == 0 && classN a deep && classN b deep
  | _, _ => false
end
mutual
def partN : Nd → Nat → Gs → Option Gs
  | ⟨k, m, a, b, ng, nm, st, ks⟩, deep, c =>
    if k = 1 then (if (onlyB ⟨k, m, a, b, ng, nm, st, ks⟩ 0 a 0 false e0 0 && runeB a) = true then some c else none)
    else if k = 2 ∨ k = 14 then (if onlyB ⟨k, m, a, b, ng, nm, st, ks⟩ 0 0 0 false e0 0 = true then some c else none)
    else if k = 3 then (if classN res ⟨k, m, a, b, ng, nm, st, ks⟩ (deep + 1) = true then some c else none)
    else if k = 5 then (if propN res ⟨k, m, a, b, ng, nm, st, ks⟩ = true then some c else none)
    else if k = 12 then (if (onlyB ⟨k, m, a, b, ng, nm, st, ks⟩ m 0 0 false e0 0 && decide (1 ≤ m) && decide (m ≤ 10)) = true then some c else none)
    else if k = 13 then (if (onlyB ⟨k, m, a, b, ng, nm, st, ks⟩ 0 a 0 false e0 0 && decide (0 < a) && decide (a ≤ (c.1 : Int))) = true then some c else none)
    else if k = 8 then (if (onlyB ⟨k, m, a, b, ng, nm, st, ks⟩ m a b false e0 ks.length && decide (0 ≤ m) && decide (m ≤ 2) && decide (0 ≤ a) && decide (a ≤ 100) && (b == -1 || (decide (a ≤ b) && decide (b ≤ 100)))) = true then repK ks deep c else none)
    else if k = 9 then (if onlyB ⟨k, m, a, b, ng, nm, st, ks⟩ 0 a 0 false nm ks.length = true then ((groupS a nm c).bind fun c' => withK ks deep c') else none)
    else if k = 10 then (if (onlyB ⟨k, m, a, b, ng, nm, st, ks⟩ m 0 0 false e0 ks.length && decide (0 ≤ m) && decide (m ≤ 3)) = true then withK ks deep c else none)
    else if k = 11 then (if onlyB ⟨k, m, a, b, ng, nm, st, ks⟩ 0 0 0 false e0 ks.length = true then withK ks deep c else none)
    else none
def repK : List Nd → Nat → Gs → Option Gs
  | [m], deep, c => if m.f0 = 8 ∨ m.f0 = 10 ∨ m.f0 = 12 then none else partN m deep c
  | _, _, _ => none
def withK : List Nd → Nat → Gs → Option Gs
  | [m], deep, c => if deep < 50 then bodyN m (deep + 1) c else none
  | _, _, _ => none
def bodyN : Nd → Nat → Gs → Option Gs
  | ⟨k, m, a, b, ng, nm, st, ks⟩, deep, c =>
    if onlyB ⟨k, m, a, b, ng, nm, st, ks⟩ 0 0 0 false e0 ks.length = true then (if k = 7 then (if 1 < ks.length then seqK ks deep c else none) else if k = 6 then partK ks deep c else none) else none
def seqK : List Nd → Nat → Gs → Option Gs
  | [], _, c => some c
  | s :: ss, deep, c => (seqN s deep c).bind fun c' => seqK ss deep c'
def seqN : Nd → Nat → Gs → Option Gs
  | ⟨k, m, a, b, ng, nm, st, ks⟩, deep, c => if k = 6 ∧ onlyB ⟨k, m, a, b, ng, nm, st, ks⟩ 0 0 0 false e0 ks.length = true then partK ks deep c else none
def partK : List Nd → Nat → Gs → Option Gs
  | [], _, c => some c
  | n :: ns, deep, c => (partN n deep c).bind fun c' => partK ns deep c'
end
end
def ofT (m : Int) (l : List (List Int)) : List Int := l.getD m.toNat []
def propW (n : Nd) : List Int :=
  if n.f5.size = 1 ∧ n.f4 = true then [92, (bytesOf n.f5).headD 0 - 32]
  else if n.f5.size = 1 then 92 :: bytesOf n.f5
  else if n.f4 = true then [92, 80, 123] ++ bytesOf n.f5 ++ [125]
  else [92, 112, 123] ++ bytesOf n.f5 ++ [125]
/-- A number below 101 in digits. -/
def decL (n : Int) : List Int := if n < 10 then [48 + n] else if n < 100 then [48 + n / 10, 48 + n % 10] else [48 + n / 100, 48 + n / 10 % 10, 48 + n % 10]
def countW (a b : Int) : List Int :=
  if a = 0 ∧ b = -1 then [42] else if a = 1 ∧ b = -1 then [43] else if a = 0 ∧ b = 1 then [63]
  else 123 :: decL a ++ (if b = a then [] else 44 :: (if 0 ≤ b then decL b else [])) ++ [125]
mutual
def sideW : Nd → List Int
  | ⟨_, m, _, _, _, _, _, ks⟩ => if m = 0 then membW ks else sidesW ks m
def membW : List Nd → List Int
  | [] => []
  | n :: ns => (if n.f0 = 1 then printL n.f2 true else if n.f0 = 4 then printL n.f2 true ++ 45 :: printL n.f3 true else if n.f0 = 5 then propW n else [91] ++ (if n.f4 = true then [94] else []) ++ sideW n ++ [93]) ++ membW ns
def sidesW : List Nd → Int → List Int
  | [a, b], m => sideW a ++ ofT m [[], [38, 38], [45, 45], [126, 126]] ++ sideW b
  | _, _ => []
end
def classW (n : Nd) : List Int := [91] ++ (if n.f4 = true then [94] else []) ++ sideW n ++ [93]
mutual
def writeN : Nd → List Int
  | ⟨k, m, a, b, ng, nm, st, ks⟩ =>
    if k = 6 then writeK ks
    else if k = 7 then altW ks
    else if k = 1 then printL a false
    else if k = 2 then [46]
    else if k = 3 then classW ⟨k, m, a, b, ng, nm, st, ks⟩
    else if k = 5 then propW ⟨k, m, a, b, ng, nm, st, ks⟩
    else if k = 8 then headW ks ++ countW a b ++ ofT m [[], [63], [43]]
    else if k = 9 then (if a = 0 then [40, 63, 58] else if nm = e0 then [40] else [40, 63, 60] ++ bytesOf nm ++ [62]) ++ headW ks ++ [41]
    else if k = 10 then ofT m [[40, 63, 61], [40, 63, 33], [40, 63, 60, 61], [40, 63, 60, 33]] ++ headW ks ++ [41]
    else if k = 11 then [40, 63, 62] ++ headW ks ++ [41]
    else if k = 12 then ofT m [[], [94], [36], [92, 65], [92, 122], [92, 98], [92, 66], [92, 98, 123, 103, 125], [92, 66, 123, 103, 125], [92, 98, 123, 119, 125], [92, 66, 123, 119, 125]]
    else if k = 13 then [92, 107, 123] ++ decL a ++ [125]
    else if k = 14 then [92, 88]
    else []
def writeK : List Nd → List Int
  | [] => []
  | n :: ns => writeN n ++ writeK ns
def altW : List Nd → List Int
  | [] => []
  | n :: ns => writeN n ++ barW ns
def barW : List Nd → List Int
  | [] => []
  | n :: ns => 124 :: writeN n ++ barW ns
def headW : List Nd → List Int
  | [] => []
  | n :: _ => writeN n
end
/-- Whether a tree may be. -/
def canN (res : ByteArray → Int × ByteArray × Int) (n : Nd) : Bool := (bodyN res n 0 (0, [])).isSome && decide ((writeN n).length ≤ 2000)

end Go.Proofs.YtkipjalfgdfaiaaGreatDoor
